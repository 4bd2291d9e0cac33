/-
  Layer 22 (memory): MemoryWears, the walk.
-/
import Derived.Test.YtgieiehpnjhkoaaMemK1
namespace Go.Proofs.Ytgieiehpnjhkoaa
open Go.RowKit Go.Shelf
attribute [local go_sem] Oper.semAt_some

section
variable {W : World}
set_option maxRecDepth 100000 in
set_option maxHeartbeats 4000000 in
theorem wears_none (n : Int) (A A' : Option Addr) (N c N' c' : Nat) (i : Int) (h : n < 1 ∨ 64 < n) :
    Calls Try.prog 6 #[.int .i64 n, .slice A N c, .slice A' N' c', .int .i64 i] W fun e w' => e = .returned (.bool true) ∧ Below W.heap.size W w' := by
  have HP := Lib.hid (players_bad W n h)
  clear h
  go_enter Try.func6, Try.ntmps6
  go_wp2_with (first | (go_at_call 11; refine HP.out.mono ?_; rintro e w1 ⟨rfl, hA⟩; have kA := Lib.hid hA; clear hA) | (go_at_call 10; refine (sanity_true _).mono ?_; rintro e w3 ⟨rfl, hB⟩; have kB := Lib.hid (kA.out.trans (hB.mono kA.out.size)); clear hB))
  go_ret
  exact ⟨rfl, kB.out⟩
set_option maxRecDepth 100000 in
set_option maxHeartbeats 4000000 in
theorem wears_long (n : Nat) (h1 : 1 ≤ n) (h2 : n ≤ 64) (A A' : Option Addr) (N c N' c' : Nat) (i : Int) (h : 60 < N ∨ 60 < N') :
    Calls Try.prog 6 #[.int .i64 n, .slice A N c, .slice A' N' c', .int .i64 i] W fun e w' => e = .returned (.bool true) ∧ Below W.heap.size W w' := by
  have HP := Lib.hid (uno_start (W := W) h1 h2)
  clear h1 h2
  by_cases hN : 60 < N
  · have d : decide (60 < (N : Int)) = true := decide_eq_true (by omega)
    clear h hN
    go_enter Try.func6, Try.ntmps6
    go_wp2_with (first | (go_at_call 11; refine HP.out.mono ?_; rintro e w1 ⟨p, r, b, g, rfl, hu⟩; have kA := Lib.hid hu.out.bel; clear hu) | (go_at_call 10; refine (sanity_true _).mono ?_; rintro e w3 ⟨rfl, hB⟩; have kB := Lib.hid (kA.out.trans (hB.mono kA.out.size)); clear hB))
    go_ret
    exact ⟨rfl, kB.out⟩
  · have d : decide (60 < (N : Int)) = false := decide_eq_false (by omega)
    have d' : decide (60 < (N' : Int)) = true := decide_eq_true (by omega)
    clear h hN
    go_enter Try.func6, Try.ntmps6
    go_wp2_with (first | (go_at_call 11; refine HP.out.mono ?_; rintro e w1 ⟨p, r, b, g, rfl, hu⟩; have kA := Lib.hid hu.out.bel; clear hu) | (go_at_call 10; refine (sanity_true _).mono ?_; rintro e w3 ⟨rfl, hB⟩; have kB := Lib.hid (kA.out.trans (hB.mono kA.out.size)); clear hB))
    go_ret
    exact ⟨rfl, kB.out⟩

set_option maxRecDepth 100000 in
set_option maxHeartbeats 4000000 in
theorem wears_loop (n : Nat) (v v' : Value) (ops more : List PlainOp) (hv : OpsAt W v ops) (hv' : OpsAt W v' more) (i : Int) (hn1 : 1 ≤ n) (hn : n ≤ 64) (hN : ops.length ≤ 60) (hN' : more.length ≤ 60) :
    Calls Try.prog 6 #[.int .i64 n, v, v', .int .i64 i] W fun e w' => e = .returned (.bool true) ∧ Below W.heap.size W w' := by
  obtain ⟨A, c, rfl, hA⟩ := hv
  obtain ⟨A', c', rfl, hA'⟩ := hv'
  have HP := Lib.hid (uno_start (W := W) hn1 hn)
  have h1 : decide (60 < (ops.length : Int)) = false := decide_eq_false (by omega)
  have h2 : decide (60 < (more.length : Int)) = false := decide_eq_false (by omega)
  have HA := Lib.hid hA
  have HA' := Lib.hid hA'
  have Hn := Lib.hid (And.intro hn1 (And.intro hn (And.intro hN hN')))
  clear hA hA' hn1 hn hN hN'
  go_enter Try.func6, Try.ntmps6
  go_wp2_with (first | (go_at_call 11; refine HP.out.mono ?_; rintro e w1 ⟨p, r, b, g, rfl, hu⟩))
  have hu0 : Hid (Uno W w1 p b g (upTo n ops 0)) := hu
  clear hu HP
  go_loopw [42] (fun a wr => ∃ k : Nat, k ≤ ops.length ∧ a = .int .i64 k ∧ Hid (Uno W wr p b g (upTo n ops k))) (fun a _ => ops.length - (intOf a).toNat)
  case atStart => exact ⟨0, Nat.zero_le _, rfl, hu0⟩
  case round =>
    obtain ⟨k, hk, rfl, hu⟩ := hrel
    by_cases hkl : k < ops.length
    · obtain ⟨o, ho⟩ : ∃ o, ops[k]? = some o := ⟨_, List.getElem?_eq_getElem hkl⟩
      obtain ⟨B, off, rfl, hbl, hat⟩ := HA.out (by omega)
      obtain ⟨A1, n1, cc, c0, c1, c2, c3, c4, hok⟩ := (hat k o ho).below hbl hu.out.bel
      have Hs := Lib.hid (upTo_sound n ops k hk)
      obtain ⟨er, t, het⟩ : ∃ er t, step o (upTo n ops k) = (er, t) := ⟨_, _, rfl⟩
      have Ht := Lib.hid het
      have Hok := Lib.hid hok
      have Hkk : Hid (upTo n ops (k + 1) = t) := by unfold Hid; rw [upTo_succ n ops k o ho, het]
      have hN := Hn.out.2.2.1
      clear hat hok het ho hu0
      go_wp2_with (first
        | (go_at_call 13; refine (uno_play (hu.out.on ((Below.refl _ _).alloc (Nat.le_refl _) _)) Hs.out Hn.out.2.1 (by have := Hn.out.2.2; omega) o _ Hok.out Ht.out).mono ?_; rintro e w2 ⟨rfl, h1, hop⟩; clear hop))
      go_roundw
      case rel => exact ⟨k + 1, by omega, by go_num, by rw [Hkk.out]; exact h1⟩
      case measure => simp [intOf]; omega
    · obtain rfl : k = ops.length := by omega
      have Hs := Lib.hid (upTo_sound n ops _ (Nat.le_refl _))
      have hc := hu.out.cell
      clear hu0 HA
      have HF := Lib.hid (uno_flush hu.out Hs.out Hn.out.2.1)
      have Hs2 := Lib.hid Hs.out.flush
      have Hcl := Lib.hid (map_clean (upTo n ops ops.length).M)
      generalize hSt : ({ (upTo n ops ops.length) with M := (upTo n ops ops.length).M.map Sec.flushed } : St) = st at HF Hs2
      have Hcl2 : Hid (∀ s ∈ st.M, s.dirty = false) := by rw [← hSt]; exact Hcl.out
      clear hSt Hcl
      by_cases hi : isAt st.M i
      · have hi0 := hi
        obtain ⟨j, x, rfl, hx, hup⟩ := isAt_get hi
        have hxd : x.dirty = false := Hcl2.out x (List.mem_of_getElem? hx)
        have HI := Lib.hid hi0
        have hx2 : Hid ((upd Sec.wear st.M j)[j]? = some x.wear) := by
          unfold Hid
          rw [hup, List.getElem?_set_self (List.getElem?_eq_some_iff.1 hx).1]
        have Hs3 := Lib.hid (Hs2.out.turn (f := Sec.wear) (fun y hy => ⟨hy.1, hy.2.1, hy.2.2⟩) hi0)
        have hxw : Hid (x.wear.worn = true ∧ x.wear.dirty = false) := ⟨rfl, hxd⟩
        obtain ⟨t0, ht0⟩ : ∃ t0, x.wear.seen = t0 := ⟨_, rfl⟩
        have Ht0 := Lib.hid ht0
        generalize x.wear = y at hx2 hxw Ht0
        clear hi hi0 hx hup hxd ht0 Hcl2
        generalize hM3 : upd Sec.wear st.M j = M3 at hx2 Hs3
        have HM3 := Lib.hid hM3
        clear hM3
        go_wp2_with (first
          | (go_at_call 20; refine HF.out.mono ?_; rintro e w2 ⟨rfl, h2, g2⟩; have hc2 := h2.out.cell)
          | (go_at_call 24; refine (uno_wear_in h2.out HI.out).mono ?_; rintro e w3 ⟨rfl, h3⟩; have hc3 := h3.out.cell; have r3 := Lib.hid (read_at hx2.out); have h3' : Hid (Uno W w3 p b g { st with M := M3 }) := by (rw [← HM3.out]; exact h3))
          | (go_at_call 18; refine (uno_read h3'.out (r3.out.1.trans Ht0.out) r3.out.2).mono ?_; rintro e w4 ⟨rfl, rfl⟩))
        have hu3 := h3'
        clear h3 h3' h2 g2 hc2 hc3 HF Hs2 HI HM3 r3
        go_loopw [88] (fun a wr => ∃ (k : Nat) (s' : St), k ≤ more.length ∧ a = .int .i64 k ∧ Hid (Uno W wr p b g s') ∧ Hid (Sound n (ops.length + k) s') ∧ Hid (s'.M[j]? = some y)) (fun a _ => more.length - (intOf a).toNat)
        case atStart => exact ⟨0, _, Nat.zero_le _, rfl, hu3, Hs3, hx2⟩
        case round =>
          obtain ⟨k, s1, hk, rfl, hu, Hss, hxs⟩ := hrel
          by_cases hkl : k < more.length
          · obtain ⟨o, ho⟩ : ∃ o, more[k]? = some o := ⟨_, List.getElem?_eq_getElem hkl⟩
            obtain ⟨B, off, rfl, hbl, hat⟩ := HA'.out (by omega)
            obtain ⟨A1, n1, cc, c0, c1, c2, c3, c4, hok⟩ := (hat k o ho).below hbl hu.out.bel
            obtain ⟨er, s', het⟩ : ∃ er t, step o s1 = (er, t) := ⟨_, _, rfl⟩
            have Ht := Lib.hid het
            have Hok := Lib.hid hok
            have Hst : Hid (Sound n (ops.length + (k + 1)) s') := by have := Hss.out.step o; rw [het] at this; exact this
            have Hkeep : Hid ((o.kind = 1 ∨ o.kind = 2 ∨ o.kind = 3) → s'.M[j]? = some y) := fun h => by have := step_keeps hxs.out hxw.out.1 hxw.out.2 h; rw [het] at this; exact this
            have hN := Hn.out.2.2.2
            clear hat hok het ho hu3 Hs3 hx2
            by_cases k1 : o.kind = 1
            · have HK : o.kind = 1 ∨ o.kind = 2 ∨ o.kind = 3 := .inl k1
              have HK := Lib.hid HK
              have b1 : (o.kind == 1) = true := by simp [k1]
              clear k1
              go_wp2_with (first
                | (go_at_call 13; refine (uno_play (hu.out.on ((Below.refl _ _).alloc (Nat.le_refl _) _)) Hss.out Hn.out.2.1 (by have := Hn.out.2.2; omega) o _ Hok.out Ht.out).mono ?_; rintro e w2 ⟨rfl, h1, hop⟩; clear hop))
              go_roundw
              case rel => exact ⟨k + 1, s', by omega, by go_num, h1, Hst.out, Hkeep.out HK.out⟩
              case measure => simp [intOf]; omega
            by_cases k2 : o.kind = 2
            · have HK : o.kind = 1 ∨ o.kind = 2 ∨ o.kind = 3 := .inr (.inl k2)
              have HK := Lib.hid HK
              have b1 : (o.kind == 1) = false := beq_f k1
              have b2 : (o.kind == 2) = true := by simp [k2]
              clear k1 k2
              go_wp2_with (first
                | (go_at_call 13; refine (uno_play (hu.out.on ((Below.refl _ _).alloc (Nat.le_refl _) _)) Hss.out Hn.out.2.1 (by have := Hn.out.2.2; omega) o _ Hok.out Ht.out).mono ?_; rintro e w2 ⟨rfl, h1, hop⟩; clear hop))
              go_roundw
              case rel => exact ⟨k + 1, s', by omega, by go_num, h1, Hst.out, Hkeep.out HK.out⟩
              case measure => simp [intOf]; omega
            by_cases k3 : o.kind = 3
            · have HK : o.kind = 1 ∨ o.kind = 2 ∨ o.kind = 3 := .inr (.inr k3)
              have HK := Lib.hid HK
              have b1 : (o.kind == 1) = false := beq_f k1
              have b2 : (o.kind == 2) = false := beq_f k2
              have b3 : (o.kind == 3) = true := by simp [k3]
              clear k1 k2 k3
              go_wp2_with (first
                | (go_at_call 13; refine (uno_play (hu.out.on ((Below.refl _ _).alloc (Nat.le_refl _) _)) Hss.out Hn.out.2.1 (by have := Hn.out.2.2; omega) o _ Hok.out Ht.out).mono ?_; rintro e w2 ⟨rfl, h1, hop⟩; clear hop))
              go_roundw
              case rel => exact ⟨k + 1, s', by omega, by go_num, h1, Hst.out, Hkeep.out HK.out⟩
              case measure => simp [intOf]; omega
            · have b1 : (o.kind == 1) = false := beq_f k1
              have b2 : (o.kind == 2) = false := beq_f k2
              have b3 : (o.kind == 3) = false := beq_f k3
              clear k1 k2 k3 Ht Hst Hkeep
              go_wp2_with fail
              go_roundw
              case rel => exact ⟨k + 1, s1, by omega, by go_num, hu.out.on ((Below.refl _ _).alloc (Nat.le_refl _) _), Hss.out.mono (by omega), hxs⟩
              case measure => simp [intOf]; omega
          · obtain rfl : k = more.length := by omega
            have hc := hu.out.cell
            have r3 := Lib.hid (read_at hxs.out)
            have hb := Lib.hid hu.out.bel
            clear hu3 Hs3 hx2
            go_wp2_with (first
              | (go_at_call 18; refine (uno_read hu.out (r3.out.1.trans Ht0.out) r3.out.2).mono ?_; rintro e w4 ⟨rfl, rfl⟩)
              | (go_at_call 10; refine (sanity_true _).mono ?_; rintro e w5 ⟨rfl, hB⟩; have kB := Lib.hid (hb.out.trans (hB.mono hb.out.size)); clear hB))
            go_ret
            exact ⟨rfl, kB.out⟩
      · have di : decide (i < 0 ∨ (n : Int) ≤ i) = true := by
          unfold isAt at hi
          have := Hs2.out.len
          exact decide_eq_true (by omega)
        have HI := Lib.hid hi
        have hor : Hid (i < 0 ∨ (n : Int) ≤ i) := Lib.hid (of_decide_eq_true di)
        clear hi di
        by_cases hneg : i < 0
        · have e0 : decide (i < 0) = true := decide_eq_true hneg
          clear hneg
          go_wp2_with (first
            | (go_at_call 20; refine HF.out.mono ?_; rintro e w2 ⟨rfl, h2, g2⟩; have hc2 := h2.out.cell)
            | (go_at_call 24; refine (uno_wear_out h2.out HI.out).mono ?_; rintro e w3 ⟨rfl, h3⟩)
            | (go_at_call 10; refine (sanity_true _).mono ?_; rintro e w4 ⟨rfl, hB⟩; have kB := Lib.hid (h3.out.trans (hB.mono h3.out.size)); clear hB))
          go_ret
          exact ⟨rfl, kB.out⟩
        · have e0 : decide (i < 0) = false := decide_eq_false hneg
          have e1 : decide ((n : Int) ≤ i) = true := decide_eq_true (by have := hor.out; omega)
          clear hneg
          go_wp2_with (first
            | (go_at_call 20; refine HF.out.mono ?_; rintro e w2 ⟨rfl, h2, g2⟩; have hc2 := h2.out.cell)
            | (go_at_call 24; refine (uno_wear_out h2.out HI.out).mono ?_; rintro e w3 ⟨rfl, h3⟩)
            | (go_at_call 10; refine (sanity_true _).mono ?_; rintro e w4 ⟨rfl, hB⟩; have kB := Lib.hid (h3.out.trans (hB.mono h3.out.size)); clear hB))
          go_ret
          exact ⟨rfl, kB.out⟩
/-- The whole. -/
theorem law_wears (n : Int) (v v' : Value) (ops more : List PlainOp) (hv : OpsAt W v ops) (hv' : OpsAt W v' more) (i : Int) :
    Calls Try.prog 6 #[.int .i64 n, v, v', .int .i64 i] W fun e w' => e = .returned (.bool true) ∧ Below W.heap.size W w' := by
  have h0 := hv
  have h0' := hv'
  obtain ⟨A, c, rfl, _⟩ := hv
  obtain ⟨A', c', rfl, _⟩ := hv'
  by_cases h1 : n < 1 ∨ 64 < n
  · exact wears_none n A A' ops.length c more.length c' i h1
  · obtain ⟨m, rfl⟩ := Int.eq_ofNat_of_zero_le (show 0 ≤ n by omega)
    by_cases h2 : 60 < ops.length ∨ 60 < more.length
    · exact wears_long m (by omega) (by omega) A A' ops.length c more.length c' i h2
    · exact wears_loop m _ _ ops more h0 h0' i (by omega) (by omega) (by omega) (by omega)
end
end Go.Proofs.Ytgieiehpnjhkoaa
