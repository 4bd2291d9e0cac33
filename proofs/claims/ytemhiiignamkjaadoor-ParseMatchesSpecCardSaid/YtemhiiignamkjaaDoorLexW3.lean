/-
  The walks of layer 11 (lex): numbers and tokens.
-/
import Derived.Test.YtemhiiignamkjaaDoorLexW2
import Derived.StillTailTactics
import Derived.Lib.ConvBytes
namespace Go.Proofs.YtemhiiignamkjaaDoor
open Go.RowKit LexP

/-- The table of units lies where the program's text lays it. -/
def UnitsAt (w : World) : Prop := ∃ (ty : TypeId) (fr : Nat × Nat), w.heap[3]? = some (.cells #[.int .u8 115, .int .i64 1, .int .u8 109, .int .i64 60, .int .u8 104, .int .i64 3600, .int .u8 100, .int .i64 86400] ty fr)
theorem UnitsAt.lt {w : World} (h : UnitsAt w) : 3 < w.heap.size := by
  obtain ⟨ty, fr, h⟩ := h
  exact (Array.getElem?_eq_some_iff.1 h).1
theorem UnitsAt.below {w w' : World} (h : UnitsAt w) (hb : Below w.heap.size w w') : UnitsAt w' := by
  have hl := h.lt
  obtain ⟨ty, fr, h⟩ := h
  exact ⟨ty, fr, (hb.block _ hl).trans h⟩

theorem conv_bytes (w : World) (t : ByteArray) : ∃ (W : World) (cap : Nat), (convert 9 82 (.string t)).run Tryd.prog w = .ok (.slice (some ⟨w.heap.size, 0, none⟩) t.size cap) W ∧ Below w.heap.size w W ∧ w.heap.size < W.heap.size ∧
    ∀ (j : Nat) c, t.data.toList[j]? = some c → W.cell? ⟨w.heap.size, j, none⟩ = some (.int .u8 c.toNat) := by
  refine ⟨_, _, Lib.run_convert_string_bytes w _ _ 5 t Tryd.underlying9 Tryd.underlying82 Tryd.underlying5, ⟨rfl, rfl, rfl, ?_, fun k hk => ?_⟩, ?_, fun j c h => ?_⟩
  · rw [Lib.bytesWorld_size]; omega
  · exact Lib.bytesWorld_at_old _ _ _ _ hk
  · rw [Lib.bytesWorld_size]; omega
  · have hj : j < t.size := by rw [← len_bytes]; exact (List.getElem?_eq_some_iff.1 h).1
    rw [Lib.bytesWorld_cell _ _ _ _ hj, List.getD, h]
    rfl

theorem ret_int2 {a b c d : Int} (h : a = b) (h' : c = d) : Ending.returned (.tuple #[.int .i64 a, .int .i64 c]) = .returned (.tuple #[.int .i64 b, .int .i64 d]) := by rw [h, h']

set_option maxRecDepth 100000 in
set_option maxHeartbeats 4000000 in
theorem number_any (s : ByteArray) (w : World) (hs : s.size ≤ 1048576) (hU : UnitsAt w) :
    Calls Tryd.prog 77 #[.string s] w fun e w' => e = .returned (.tuple #[.int .i64 (numberL s.data.toList).1, .int .i64 (numberL s.data.toList).2]) ∧ Below w.heap.size w w' := by
  have hsm : Hid (s.size ≤ maxLen) := by unfold Hid maxLen; omega
  have hle := runL_le isD s.data.toList
  rw [len_bytes] at hle
  obtain ⟨k, hk⟩ : ∃ k, runL isD s.data.toList = k := ⟨_, rfl⟩
  rw [hk] at hle
  have Hk := Lib.hid hk
  clear hk
  obtain ⟨t, ht⟩ : ∃ t : ByteArray, s.extract 0 k = t := ⟨_, rfl⟩
  have htl : Hid (t.data.toList = s.data.toList.take k) := by rw [← ht, extract_list]; simp [Hid]
  have hts : t.size = k := by rw [← len_bytes, htl.out, List.length_take, len_bytes]; omega
  obtain ⟨W, cap, hconv, hbW, hlW, hcW⟩ := conv_bytes w t
  rw [hts] at hconv
  have Hc := Lib.hid hcW
  clear hcW hts
  go_enter Tryd.func77, Tryd.ntmps77
  go_wp2_with (go_at_call 72; refine (run_any isD _ enters_digit digit_any _ _ hsm.out).mono ?_; rintro e w' ⟨rfl, rfl⟩; rw [Hk.out])
  go_loop [5, 7, 17] (fun v _ i => ∃ j : Nat, j ≤ k ∧ i = .int .i64 j ∧ v = .int .i64 (valL 0 (t.data.toList.take j))) (fun _ _ i => k - (intOf i).toNat)
  case atStart => exact ⟨0, Nat.zero_le _, rfl, rfl⟩
  case round =>
    obtain ⟨j, hj, rfl, rfl⟩ := hrel
    have hv := valL_le 0 (by omega) (t.data.toList.take j)
    by_cases hlt : j < k
    · obtain ⟨c, hc⟩ : ∃ c, t.data.toList[j]? = some c := by
        rw [htl.out, List.getElem?_take_of_lt hlt, byte_at s j (by omega)]; exact ⟨_, rfl⟩
      have hcell := Hc.out j c hc
      have hd : isD c = true := by
        have h2 : s.data.toList[j]? = some c := by rw [htl.out, List.getElem?_take_of_lt hlt] at hc; exact hc
        exact runL_spec isD s.data.toList j c (by rw [Hk.out]; exact hlt) h2
      have hd1 : 48 ≤ (c.toNat : Int) ∧ (c.toNat : Int) ≤ 57 := by unfold isD at hd; simp only [decide_eq_true_eq] at hd; omega
      clear hd
      obtain ⟨hd1, hd2⟩ := hd1
      have hn : Hid (valL 0 (t.data.toList.take (j + 1)) = min (10 * valL 0 (t.data.toList.take j) + (c.toNat - 48)) 1099511627777) := by
        rw [List.take_add_one, hc]; exact valL_snoc _ _ _
      clear hc
      go_wp2_with fail
      go_round
      case rel => exact ⟨j + 1, by omega, by go_num, by rw [hn.out]; go_num⟩
      case measure => simp [intOf]; omega
    · obtain rfl : j = k := by omega
      have hV : valL 0 (t.data.toList.take j) = valL 0 (s.data.toList.take j) := by rw [htl.out, List.take_take, Nat.min_self]
      rw [hV] at hv
      obtain ⟨V, hVV⟩ : ∃ V, valL 0 (s.data.toList.take j) = V := ⟨_, rfl⟩
      rw [hVV] at hV hv
      rw [hV]
      have HVV := Lib.hid hVV
      clear hVV hV
      by_cases hz : 1 < j ∧ s.data.toList.head? = some 48
      · obtain ⟨h1, h2⟩ := hz
        have t1 : ((s[0]'(by omega)).toNat : Int) == 48 := by
          have := drop_at s 0 (by omega)
          rw [List.drop_zero] at this
          rw [this] at h2
          simp at h2
          rw [h2]; rfl
        have hn : Hid (numberL s.data.toList = (0, 0)) := by
          unfold Hid numberL
          rw [Hk.out, if_pos ⟨h1, h2⟩]
        clear h2
        go_wp2_with fail
        go_ret2
        exact ⟨by rw [hn.out]; rfl, hbW⟩
      · have hn : Hid (numberL s.data.toList = if 0 < headU (s.data.toList.drop j) then
            (if headE (s.data.toList.drop (j + 1)) then (0, 0) else (j + 1, min (V * headU (s.data.toList.drop j)) 1099511627777))
            else (if headE (s.data.toList.drop j) then (0, 0) else (j, V))) := by
          unfold Hid numberL
          rw [Hk.out, if_neg hz, HVV.out]
        have hB : (1 < j ∧ s.data.toList.head? ≠ some 48) ∨ ¬ 1 < j := by
          by_cases h1 : 1 < j
          · exact .inl ⟨h1, fun h => hz ⟨h1, h⟩⟩
          · exact .inr h1
        clear hz
        obtain ⟨ty, fr, hg⟩ := hU.below hbW
        rcases hB with ⟨h1, h2⟩ | h1
        · have t1 : (((s[0]'(by omega)).toNat : Int) == 48) = false := by
            have := drop_at s 0 (by omega)
            rw [List.drop_zero] at this
            rw [this] at h2
            refine beq_f (fun h => h2 ?_)
            simp only [List.head?_cons, Option.some.injEq]
            exact UInt8.toNat_inj.1 (by have : (48 : UInt8).toNat = 48 := rfl; omega)
          clear h2
          go_wp2_with (refine wpList_load_row rfl 122 _ rfl 3 rfl ty _ fr _ hg Tryd.underlying122 rfl (by kernel_rfl) ?_)
          go_loopw [4, 5, 9, 37] (fun n v _ i wr => ∃ a : Nat, a ≤ 4 ∧ i = .int .i64 a ∧ n = .int .i64 j ∧ v = .int .i64 V ∧ Below W.heap.size W wr ∧ Hid (∀ c, s.data.toList[j]? = some c → (0 < a → c.toNat ≠ 115) ∧ (1 < a → c.toNat ≠ 109) ∧ (2 < a → c.toNat ≠ 104) ∧ (3 < a → c.toNat ≠ 100))) (fun _ _ _ i _ => 4 - (intOf i).toNat)
          case atStart => exact ⟨0, by omega, rfl, rfl, rfl, Below.refl _ _, fun c _ => ⟨by omega, by omega, by omega, by omega⟩⟩
          case round =>
            obtain ⟨a, ha, rfl, rfl, rfl, hbr, hne⟩ := hrel
            have hsz := hbr.size
            have hwr : Below w.heap.size w wr := hbW.trans (hbr.mono (by omega))
            have hA : a = 0 ∨ a = 1 ∨ a = 2 ∨ a = 3 ∨ a = 4 := by omega
            rcases hA with rfl | rfl | rfl | rfl | rfl
            · have hidx : ∀ w, (Instr.index 122 (.agg #[.int .u8 115, .int .i64 1, .int .u8 109, .int .i64 60, .int .u8 104, .int .i64 3600, .int .u8 100, .int .i64 86400]) (.int .i64 0)).run Tryd.prog w = .ok (.agg #[.int .u8 115, .int .i64 1]) w := fun _ => by kernel_rfl
              by_cases hj2 : j < s.size
              · have hby := Lib.hid (byte_at s j hj2)
                have hU1 : Hid (headU (s.data.toList.drop j) = unitN s[j]) := by unfold Hid; rw [drop_at s j hj2]; rfl
                by_cases hm : s[j].toNat = 115
                · have t2 : ((s[j].toNat : Int) == 115) = true := beq_t (by omega)
                  have hf1 : Hid (numberL s.data.toList = if headE (s.data.toList.drop (j + 1)) then (0, 0) else (j + 1, min (V * 1) 1099511627777)) := by
                    have hu : unitN s[j] = 1 := by unfold unitN; rw [hm]; rfl
                    unfold Hid; rw [hn.out, hU1.out, hu, if_pos (by omega)]
                  by_cases h5 : j + 1 < s.size
                  · cases h6 : isE s[j + 1]
                    · go_wp2_with fail
                      go_quiet (fail)
                      go_wp2_with (go_at_call 88; refine (either_any _ _).mono ?_; rintro e w' ⟨rfl, rfl⟩)
                      go_ret2
                      exact ⟨by rw [hf1.out, headE_drop s _ h5, h6]; exact ret_int2 (by rw [if_neg (by decide)]; omega) (by rw [if_neg (by decide)]; omega), below_drewN (hwr.alloc (by omega) _) _⟩
                    · go_wp2_with fail
                      go_quiet (fail)
                      go_wp2_with (go_at_call 88; refine (either_any _ _).mono ?_; rintro e w' ⟨rfl, rfl⟩)
                      go_ret2
                      exact ⟨by rw [hf1.out, headE_drop s _ h5, h6]; rfl, below_drewN (hwr.alloc (by omega) _) _⟩
                  · have h6 : Hid (headE (s.data.toList.drop (j + 1)) = false) := by unfold Hid; rw [List.drop_eq_nil_of_le (by rw [len_bytes]; omega)]; rfl
                    go_wp2_with fail
                    go_quiet (fail)
                    go_wp2_with fail
                    go_ret2
                    exact ⟨by rw [hf1.out, h6.out]; exact ret_int2 (by rw [if_neg (by decide)]; omega) (by rw [if_neg (by decide)]; omega), below_drewN (hwr.alloc (by omega) _) _⟩
                · have t2 : ((s[j].toNat : Int) == 115) = false := beq_f (by omega)
                  have hne2 : Hid (∀ c, s.data.toList[j]? = some c → (0 < 1 → c.toNat ≠ 115) ∧ (1 < 1 → c.toNat ≠ 109) ∧ (2 < 1 → c.toNat ≠ 104) ∧ (3 < 1 → c.toNat ≠ 100)) := fun c hc => by
                    obtain ⟨x1, x2, x3, x4⟩ := hne.out c hc
                    rw [hby.out] at hc; cases hc
                    exact ⟨fun _ => hm, fun _ => by omega, fun _ => by omega, fun _ => by omega⟩
                  go_wp2_with fail
                  go_quiet (fail)
                  go_wp2_with fail
                  go_roundw
                  case rel => exact ⟨1, by omega, rfl, rfl, rfl, below_drewN (hbr.alloc (by omega) _) _, hne2⟩
                  case measure => simp [intOf]
              · have hne2 : Hid (∀ c, s.data.toList[j]? = some c → (0 < 1 → c.toNat ≠ 115) ∧ (1 < 1 → c.toNat ≠ 109) ∧ (2 < 1 → c.toNat ≠ 104) ∧ (3 < 1 → c.toNat ≠ 100)) := fun c hc => by
                  rw [List.getElem?_eq_none (by rw [len_bytes]; omega)] at hc; cases hc
                go_wp2_with fail
                go_quiet (fail)
                go_wp2_with fail
                go_roundw
                case rel => exact ⟨1, by omega, rfl, rfl, rfl, below_drewN (hbr.alloc (by omega) _) _, hne2⟩
                case measure => simp [intOf]
            · have hidx : ∀ w, (Instr.index 122 (.agg #[.int .u8 115, .int .i64 1, .int .u8 109, .int .i64 60, .int .u8 104, .int .i64 3600, .int .u8 100, .int .i64 86400]) (.int .i64 1)).run Tryd.prog w = .ok (.agg #[.int .u8 109, .int .i64 60]) w := fun _ => by kernel_rfl
              by_cases hj2 : j < s.size
              · have hby := Lib.hid (byte_at s j hj2)
                have hU1 : Hid (headU (s.data.toList.drop j) = unitN s[j]) := by unfold Hid; rw [drop_at s j hj2]; rfl
                by_cases hm : s[j].toNat = 109
                · have t2 : ((s[j].toNat : Int) == 109) = true := beq_t (by omega)
                  have hf1 : Hid (numberL s.data.toList = if headE (s.data.toList.drop (j + 1)) then (0, 0) else (j + 1, min (V * 60) 1099511627777)) := by
                    have hu : unitN s[j] = 60 := by unfold unitN; rw [hm]; rfl
                    unfold Hid; rw [hn.out, hU1.out, hu, if_pos (by omega)]
                  by_cases h5 : j + 1 < s.size
                  · cases h6 : isE s[j + 1]
                    · go_wp2_with fail
                      go_quiet (fail)
                      go_wp2_with (go_at_call 88; refine (either_any _ _).mono ?_; rintro e w' ⟨rfl, rfl⟩)
                      go_ret2
                      exact ⟨by rw [hf1.out, headE_drop s _ h5, h6]; exact ret_int2 (by rw [if_neg (by decide)]; omega) (by rw [if_neg (by decide)]; omega), below_drewN (hwr.alloc (by omega) _) _⟩
                    · go_wp2_with fail
                      go_quiet (fail)
                      go_wp2_with (go_at_call 88; refine (either_any _ _).mono ?_; rintro e w' ⟨rfl, rfl⟩)
                      go_ret2
                      exact ⟨by rw [hf1.out, headE_drop s _ h5, h6]; rfl, below_drewN (hwr.alloc (by omega) _) _⟩
                  · have h6 : Hid (headE (s.data.toList.drop (j + 1)) = false) := by unfold Hid; rw [List.drop_eq_nil_of_le (by rw [len_bytes]; omega)]; rfl
                    go_wp2_with fail
                    go_quiet (fail)
                    go_wp2_with fail
                    go_ret2
                    exact ⟨by rw [hf1.out, h6.out]; exact ret_int2 (by rw [if_neg (by decide)]; omega) (by rw [if_neg (by decide)]; omega), below_drewN (hwr.alloc (by omega) _) _⟩
                · have t2 : ((s[j].toNat : Int) == 109) = false := beq_f (by omega)
                  have hne2 : Hid (∀ c, s.data.toList[j]? = some c → (0 < 2 → c.toNat ≠ 115) ∧ (1 < 2 → c.toNat ≠ 109) ∧ (2 < 2 → c.toNat ≠ 104) ∧ (3 < 2 → c.toNat ≠ 100)) := fun c hc => by
                    obtain ⟨x1, x2, x3, x4⟩ := hne.out c hc
                    rw [hby.out] at hc; cases hc
                    exact ⟨fun _ => x1 (by omega), fun _ => hm, fun _ => by omega, fun _ => by omega⟩
                  go_wp2_with fail
                  go_quiet (fail)
                  go_wp2_with fail
                  go_roundw
                  case rel => exact ⟨2, by omega, rfl, rfl, rfl, below_drewN (hbr.alloc (by omega) _) _, hne2⟩
                  case measure => simp [intOf]
              · have hne2 : Hid (∀ c, s.data.toList[j]? = some c → (0 < 2 → c.toNat ≠ 115) ∧ (1 < 2 → c.toNat ≠ 109) ∧ (2 < 2 → c.toNat ≠ 104) ∧ (3 < 2 → c.toNat ≠ 100)) := fun c hc => by
                  rw [List.getElem?_eq_none (by rw [len_bytes]; omega)] at hc; cases hc
                go_wp2_with fail
                go_quiet (fail)
                go_wp2_with fail
                go_roundw
                case rel => exact ⟨2, by omega, rfl, rfl, rfl, below_drewN (hbr.alloc (by omega) _) _, hne2⟩
                case measure => simp [intOf]
            · have hidx : ∀ w, (Instr.index 122 (.agg #[.int .u8 115, .int .i64 1, .int .u8 109, .int .i64 60, .int .u8 104, .int .i64 3600, .int .u8 100, .int .i64 86400]) (.int .i64 2)).run Tryd.prog w = .ok (.agg #[.int .u8 104, .int .i64 3600]) w := fun _ => by kernel_rfl
              by_cases hj2 : j < s.size
              · have hby := Lib.hid (byte_at s j hj2)
                have hU1 : Hid (headU (s.data.toList.drop j) = unitN s[j]) := by unfold Hid; rw [drop_at s j hj2]; rfl
                by_cases hm : s[j].toNat = 104
                · have t2 : ((s[j].toNat : Int) == 104) = true := beq_t (by omega)
                  have hf1 : Hid (numberL s.data.toList = if headE (s.data.toList.drop (j + 1)) then (0, 0) else (j + 1, min (V * 3600) 1099511627777)) := by
                    have hu : unitN s[j] = 3600 := by unfold unitN; rw [hm]; rfl
                    unfold Hid; rw [hn.out, hU1.out, hu, if_pos (by omega)]
                  by_cases h5 : j + 1 < s.size
                  · cases h6 : isE s[j + 1]
                    · go_wp2_with fail
                      go_quiet (fail)
                      go_wp2_with (go_at_call 88; refine (either_any _ _).mono ?_; rintro e w' ⟨rfl, rfl⟩)
                      go_ret2
                      exact ⟨by rw [hf1.out, headE_drop s _ h5, h6]; exact ret_int2 (by rw [if_neg (by decide)]; omega) (by rw [if_neg (by decide)]; omega), below_drewN (hwr.alloc (by omega) _) _⟩
                    · go_wp2_with fail
                      go_quiet (fail)
                      go_wp2_with (go_at_call 88; refine (either_any _ _).mono ?_; rintro e w' ⟨rfl, rfl⟩)
                      go_ret2
                      exact ⟨by rw [hf1.out, headE_drop s _ h5, h6]; rfl, below_drewN (hwr.alloc (by omega) _) _⟩
                  · have h6 : Hid (headE (s.data.toList.drop (j + 1)) = false) := by unfold Hid; rw [List.drop_eq_nil_of_le (by rw [len_bytes]; omega)]; rfl
                    go_wp2_with fail
                    go_quiet (fail)
                    go_wp2_with fail
                    go_ret2
                    exact ⟨by rw [hf1.out, h6.out]; exact ret_int2 (by rw [if_neg (by decide)]; omega) (by rw [if_neg (by decide)]; omega), below_drewN (hwr.alloc (by omega) _) _⟩
                · have t2 : ((s[j].toNat : Int) == 104) = false := beq_f (by omega)
                  have hne2 : Hid (∀ c, s.data.toList[j]? = some c → (0 < 3 → c.toNat ≠ 115) ∧ (1 < 3 → c.toNat ≠ 109) ∧ (2 < 3 → c.toNat ≠ 104) ∧ (3 < 3 → c.toNat ≠ 100)) := fun c hc => by
                    obtain ⟨x1, x2, x3, x4⟩ := hne.out c hc
                    rw [hby.out] at hc; cases hc
                    exact ⟨fun _ => x1 (by omega), fun _ => x2 (by omega), fun _ => hm, fun _ => by omega⟩
                  go_wp2_with fail
                  go_quiet (fail)
                  go_wp2_with fail
                  go_roundw
                  case rel => exact ⟨3, by omega, rfl, rfl, rfl, below_drewN (hbr.alloc (by omega) _) _, hne2⟩
                  case measure => simp [intOf]
              · have hne2 : Hid (∀ c, s.data.toList[j]? = some c → (0 < 3 → c.toNat ≠ 115) ∧ (1 < 3 → c.toNat ≠ 109) ∧ (2 < 3 → c.toNat ≠ 104) ∧ (3 < 3 → c.toNat ≠ 100)) := fun c hc => by
                  rw [List.getElem?_eq_none (by rw [len_bytes]; omega)] at hc; cases hc
                go_wp2_with fail
                go_quiet (fail)
                go_wp2_with fail
                go_roundw
                case rel => exact ⟨3, by omega, rfl, rfl, rfl, below_drewN (hbr.alloc (by omega) _) _, hne2⟩
                case measure => simp [intOf]
            · have hidx : ∀ w, (Instr.index 122 (.agg #[.int .u8 115, .int .i64 1, .int .u8 109, .int .i64 60, .int .u8 104, .int .i64 3600, .int .u8 100, .int .i64 86400]) (.int .i64 3)).run Tryd.prog w = .ok (.agg #[.int .u8 100, .int .i64 86400]) w := fun _ => by kernel_rfl
              by_cases hj2 : j < s.size
              · have hby := Lib.hid (byte_at s j hj2)
                have hU1 : Hid (headU (s.data.toList.drop j) = unitN s[j]) := by unfold Hid; rw [drop_at s j hj2]; rfl
                by_cases hm : s[j].toNat = 100
                · have t2 : ((s[j].toNat : Int) == 100) = true := beq_t (by omega)
                  have hf1 : Hid (numberL s.data.toList = if headE (s.data.toList.drop (j + 1)) then (0, 0) else (j + 1, min (V * 86400) 1099511627777)) := by
                    have hu : unitN s[j] = 86400 := by unfold unitN; rw [hm]; rfl
                    unfold Hid; rw [hn.out, hU1.out, hu, if_pos (by omega)]
                  by_cases h5 : j + 1 < s.size
                  · cases h6 : isE s[j + 1]
                    · go_wp2_with fail
                      go_quiet (fail)
                      go_wp2_with (go_at_call 88; refine (either_any _ _).mono ?_; rintro e w' ⟨rfl, rfl⟩)
                      go_ret2
                      exact ⟨by rw [hf1.out, headE_drop s _ h5, h6]; exact ret_int2 (by rw [if_neg (by decide)]; omega) (by rw [if_neg (by decide)]; omega), below_drewN (hwr.alloc (by omega) _) _⟩
                    · go_wp2_with fail
                      go_quiet (fail)
                      go_wp2_with (go_at_call 88; refine (either_any _ _).mono ?_; rintro e w' ⟨rfl, rfl⟩)
                      go_ret2
                      exact ⟨by rw [hf1.out, headE_drop s _ h5, h6]; rfl, below_drewN (hwr.alloc (by omega) _) _⟩
                  · have h6 : Hid (headE (s.data.toList.drop (j + 1)) = false) := by unfold Hid; rw [List.drop_eq_nil_of_le (by rw [len_bytes]; omega)]; rfl
                    go_wp2_with fail
                    go_quiet (fail)
                    go_wp2_with fail
                    go_ret2
                    exact ⟨by rw [hf1.out, h6.out]; exact ret_int2 (by rw [if_neg (by decide)]; omega) (by rw [if_neg (by decide)]; omega), below_drewN (hwr.alloc (by omega) _) _⟩
                · have t2 : ((s[j].toNat : Int) == 100) = false := beq_f (by omega)
                  have hne2 : Hid (∀ c, s.data.toList[j]? = some c → (0 < 4 → c.toNat ≠ 115) ∧ (1 < 4 → c.toNat ≠ 109) ∧ (2 < 4 → c.toNat ≠ 104) ∧ (3 < 4 → c.toNat ≠ 100)) := fun c hc => by
                    obtain ⟨x1, x2, x3, x4⟩ := hne.out c hc
                    rw [hby.out] at hc; cases hc
                    exact ⟨fun _ => x1 (by omega), fun _ => x2 (by omega), fun _ => x3 (by omega), fun _ => hm⟩
                  go_wp2_with fail
                  go_quiet (fail)
                  go_wp2_with fail
                  go_roundw
                  case rel => exact ⟨4, by omega, rfl, rfl, rfl, below_drewN (hbr.alloc (by omega) _) _, hne2⟩
                  case measure => simp [intOf]
              · have hne2 : Hid (∀ c, s.data.toList[j]? = some c → (0 < 4 → c.toNat ≠ 115) ∧ (1 < 4 → c.toNat ≠ 109) ∧ (2 < 4 → c.toNat ≠ 104) ∧ (3 < 4 → c.toNat ≠ 100)) := fun c hc => by
                  rw [List.getElem?_eq_none (by rw [len_bytes]; omega)] at hc; cases hc
                go_wp2_with fail
                go_quiet (fail)
                go_wp2_with fail
                go_roundw
                case rel => exact ⟨4, by omega, rfl, rfl, rfl, below_drewN (hbr.alloc (by omega) _) _, hne2⟩
                case measure => simp [intOf]
            · have hf1 : Hid (numberL s.data.toList = if headE (s.data.toList.drop j) then (0, 0) else (j, V)) := by
                have hu : headU (s.data.toList.drop j) = 0 := by
                  by_cases hj2 : j < s.size
                  · obtain ⟨x1, x2, x3, x4⟩ := hne.out _ (byte_at s j hj2)
                    rw [drop_at s j hj2]
                    show unitN s[j] = 0
                    unfold unitN
                    rw [if_neg (x1 (by omega)), if_neg (x2 (by omega)), if_neg (x3 (by omega)), if_neg (x4 (by omega))]
                  · rw [List.drop_eq_nil_of_le (by rw [len_bytes]; omega)]; rfl
                unfold Hid; rw [hn.out, hu, if_neg (by omega)]
              by_cases h5 : j < s.size
              · cases h6 : isE s[j]
                · go_wp2_with (go_at_call 88; refine (either_any _ _).mono ?_; rintro e w' ⟨rfl, rfl⟩)
                  go_ret2
                  exact ⟨by rw [hf1.out, headE_drop s _ h5, h6]; rfl, hwr⟩
                · go_wp2_with (go_at_call 88; refine (either_any _ _).mono ?_; rintro e w' ⟨rfl, rfl⟩)
                  go_ret2
                  exact ⟨by rw [hf1.out, headE_drop s _ h5, h6]; rfl, hwr⟩
              · have h6 : Hid (headE (s.data.toList.drop j) = false) := by unfold Hid; rw [List.drop_eq_nil_of_le (by rw [len_bytes]; omega)]; rfl
                go_wp2_with fail
                go_ret2
                exact ⟨by rw [hf1.out, h6.out]; rfl, hwr⟩
        · go_wp2_with (refine wpList_load_row rfl 122 _ rfl 3 rfl ty _ fr _ hg Tryd.underlying122 rfl (by kernel_rfl) ?_)
          go_loopw [4, 5, 9, 37] (fun n v _ i wr => ∃ a : Nat, a ≤ 4 ∧ i = .int .i64 a ∧ n = .int .i64 j ∧ v = .int .i64 V ∧ Below W.heap.size W wr ∧ Hid (∀ c, s.data.toList[j]? = some c → (0 < a → c.toNat ≠ 115) ∧ (1 < a → c.toNat ≠ 109) ∧ (2 < a → c.toNat ≠ 104) ∧ (3 < a → c.toNat ≠ 100))) (fun _ _ _ i _ => 4 - (intOf i).toNat)
          case atStart => exact ⟨0, by omega, rfl, rfl, rfl, Below.refl _ _, fun c _ => ⟨by omega, by omega, by omega, by omega⟩⟩
          case round =>
            obtain ⟨a, ha, rfl, rfl, rfl, hbr, hne⟩ := hrel
            have hsz := hbr.size
            have hwr : Below w.heap.size w wr := hbW.trans (hbr.mono (by omega))
            have hA : a = 0 ∨ a = 1 ∨ a = 2 ∨ a = 3 ∨ a = 4 := by omega
            rcases hA with rfl | rfl | rfl | rfl | rfl
            · have hidx : ∀ w, (Instr.index 122 (.agg #[.int .u8 115, .int .i64 1, .int .u8 109, .int .i64 60, .int .u8 104, .int .i64 3600, .int .u8 100, .int .i64 86400]) (.int .i64 0)).run Tryd.prog w = .ok (.agg #[.int .u8 115, .int .i64 1]) w := fun _ => by kernel_rfl
              by_cases hj2 : j < s.size
              · have hby := Lib.hid (byte_at s j hj2)
                have hU1 : Hid (headU (s.data.toList.drop j) = unitN s[j]) := by unfold Hid; rw [drop_at s j hj2]; rfl
                by_cases hm : s[j].toNat = 115
                · have t2 : ((s[j].toNat : Int) == 115) = true := beq_t (by omega)
                  have hf1 : Hid (numberL s.data.toList = if headE (s.data.toList.drop (j + 1)) then (0, 0) else (j + 1, min (V * 1) 1099511627777)) := by
                    have hu : unitN s[j] = 1 := by unfold unitN; rw [hm]; rfl
                    unfold Hid; rw [hn.out, hU1.out, hu, if_pos (by omega)]
                  by_cases h5 : j + 1 < s.size
                  · cases h6 : isE s[j + 1]
                    · go_wp2_with fail
                      go_quiet (fail)
                      go_wp2_with (go_at_call 88; refine (either_any _ _).mono ?_; rintro e w' ⟨rfl, rfl⟩)
                      go_ret2
                      exact ⟨by rw [hf1.out, headE_drop s _ h5, h6]; exact ret_int2 (by rw [if_neg (by decide)]; omega) (by rw [if_neg (by decide)]; omega), below_drewN (hwr.alloc (by omega) _) _⟩
                    · go_wp2_with fail
                      go_quiet (fail)
                      go_wp2_with (go_at_call 88; refine (either_any _ _).mono ?_; rintro e w' ⟨rfl, rfl⟩)
                      go_ret2
                      exact ⟨by rw [hf1.out, headE_drop s _ h5, h6]; rfl, below_drewN (hwr.alloc (by omega) _) _⟩
                  · have h6 : Hid (headE (s.data.toList.drop (j + 1)) = false) := by unfold Hid; rw [List.drop_eq_nil_of_le (by rw [len_bytes]; omega)]; rfl
                    go_wp2_with fail
                    go_quiet (fail)
                    go_wp2_with fail
                    go_ret2
                    exact ⟨by rw [hf1.out, h6.out]; exact ret_int2 (by rw [if_neg (by decide)]; omega) (by rw [if_neg (by decide)]; omega), below_drewN (hwr.alloc (by omega) _) _⟩
                · have t2 : ((s[j].toNat : Int) == 115) = false := beq_f (by omega)
                  have hne2 : Hid (∀ c, s.data.toList[j]? = some c → (0 < 1 → c.toNat ≠ 115) ∧ (1 < 1 → c.toNat ≠ 109) ∧ (2 < 1 → c.toNat ≠ 104) ∧ (3 < 1 → c.toNat ≠ 100)) := fun c hc => by
                    obtain ⟨x1, x2, x3, x4⟩ := hne.out c hc
                    rw [hby.out] at hc; cases hc
                    exact ⟨fun _ => hm, fun _ => by omega, fun _ => by omega, fun _ => by omega⟩
                  go_wp2_with fail
                  go_quiet (fail)
                  go_wp2_with fail
                  go_roundw
                  case rel => exact ⟨1, by omega, rfl, rfl, rfl, below_drewN (hbr.alloc (by omega) _) _, hne2⟩
                  case measure => simp [intOf]
              · have hne2 : Hid (∀ c, s.data.toList[j]? = some c → (0 < 1 → c.toNat ≠ 115) ∧ (1 < 1 → c.toNat ≠ 109) ∧ (2 < 1 → c.toNat ≠ 104) ∧ (3 < 1 → c.toNat ≠ 100)) := fun c hc => by
                  rw [List.getElem?_eq_none (by rw [len_bytes]; omega)] at hc; cases hc
                go_wp2_with fail
                go_quiet (fail)
                go_wp2_with fail
                go_roundw
                case rel => exact ⟨1, by omega, rfl, rfl, rfl, below_drewN (hbr.alloc (by omega) _) _, hne2⟩
                case measure => simp [intOf]
            · have hidx : ∀ w, (Instr.index 122 (.agg #[.int .u8 115, .int .i64 1, .int .u8 109, .int .i64 60, .int .u8 104, .int .i64 3600, .int .u8 100, .int .i64 86400]) (.int .i64 1)).run Tryd.prog w = .ok (.agg #[.int .u8 109, .int .i64 60]) w := fun _ => by kernel_rfl
              by_cases hj2 : j < s.size
              · have hby := Lib.hid (byte_at s j hj2)
                have hU1 : Hid (headU (s.data.toList.drop j) = unitN s[j]) := by unfold Hid; rw [drop_at s j hj2]; rfl
                by_cases hm : s[j].toNat = 109
                · have t2 : ((s[j].toNat : Int) == 109) = true := beq_t (by omega)
                  have hf1 : Hid (numberL s.data.toList = if headE (s.data.toList.drop (j + 1)) then (0, 0) else (j + 1, min (V * 60) 1099511627777)) := by
                    have hu : unitN s[j] = 60 := by unfold unitN; rw [hm]; rfl
                    unfold Hid; rw [hn.out, hU1.out, hu, if_pos (by omega)]
                  by_cases h5 : j + 1 < s.size
                  · cases h6 : isE s[j + 1]
                    · go_wp2_with fail
                      go_quiet (fail)
                      go_wp2_with (go_at_call 88; refine (either_any _ _).mono ?_; rintro e w' ⟨rfl, rfl⟩)
                      go_ret2
                      exact ⟨by rw [hf1.out, headE_drop s _ h5, h6]; exact ret_int2 (by rw [if_neg (by decide)]; omega) (by rw [if_neg (by decide)]; omega), below_drewN (hwr.alloc (by omega) _) _⟩
                    · go_wp2_with fail
                      go_quiet (fail)
                      go_wp2_with (go_at_call 88; refine (either_any _ _).mono ?_; rintro e w' ⟨rfl, rfl⟩)
                      go_ret2
                      exact ⟨by rw [hf1.out, headE_drop s _ h5, h6]; rfl, below_drewN (hwr.alloc (by omega) _) _⟩
                  · have h6 : Hid (headE (s.data.toList.drop (j + 1)) = false) := by unfold Hid; rw [List.drop_eq_nil_of_le (by rw [len_bytes]; omega)]; rfl
                    go_wp2_with fail
                    go_quiet (fail)
                    go_wp2_with fail
                    go_ret2
                    exact ⟨by rw [hf1.out, h6.out]; exact ret_int2 (by rw [if_neg (by decide)]; omega) (by rw [if_neg (by decide)]; omega), below_drewN (hwr.alloc (by omega) _) _⟩
                · have t2 : ((s[j].toNat : Int) == 109) = false := beq_f (by omega)
                  have hne2 : Hid (∀ c, s.data.toList[j]? = some c → (0 < 2 → c.toNat ≠ 115) ∧ (1 < 2 → c.toNat ≠ 109) ∧ (2 < 2 → c.toNat ≠ 104) ∧ (3 < 2 → c.toNat ≠ 100)) := fun c hc => by
                    obtain ⟨x1, x2, x3, x4⟩ := hne.out c hc
                    rw [hby.out] at hc; cases hc
                    exact ⟨fun _ => x1 (by omega), fun _ => hm, fun _ => by omega, fun _ => by omega⟩
                  go_wp2_with fail
                  go_quiet (fail)
                  go_wp2_with fail
                  go_roundw
                  case rel => exact ⟨2, by omega, rfl, rfl, rfl, below_drewN (hbr.alloc (by omega) _) _, hne2⟩
                  case measure => simp [intOf]
              · have hne2 : Hid (∀ c, s.data.toList[j]? = some c → (0 < 2 → c.toNat ≠ 115) ∧ (1 < 2 → c.toNat ≠ 109) ∧ (2 < 2 → c.toNat ≠ 104) ∧ (3 < 2 → c.toNat ≠ 100)) := fun c hc => by
                  rw [List.getElem?_eq_none (by rw [len_bytes]; omega)] at hc; cases hc
                go_wp2_with fail
                go_quiet (fail)
                go_wp2_with fail
                go_roundw
                case rel => exact ⟨2, by omega, rfl, rfl, rfl, below_drewN (hbr.alloc (by omega) _) _, hne2⟩
                case measure => simp [intOf]
            · have hidx : ∀ w, (Instr.index 122 (.agg #[.int .u8 115, .int .i64 1, .int .u8 109, .int .i64 60, .int .u8 104, .int .i64 3600, .int .u8 100, .int .i64 86400]) (.int .i64 2)).run Tryd.prog w = .ok (.agg #[.int .u8 104, .int .i64 3600]) w := fun _ => by kernel_rfl
              by_cases hj2 : j < s.size
              · have hby := Lib.hid (byte_at s j hj2)
                have hU1 : Hid (headU (s.data.toList.drop j) = unitN s[j]) := by unfold Hid; rw [drop_at s j hj2]; rfl
                by_cases hm : s[j].toNat = 104
                · have t2 : ((s[j].toNat : Int) == 104) = true := beq_t (by omega)
                  have hf1 : Hid (numberL s.data.toList = if headE (s.data.toList.drop (j + 1)) then (0, 0) else (j + 1, min (V * 3600) 1099511627777)) := by
                    have hu : unitN s[j] = 3600 := by unfold unitN; rw [hm]; rfl
                    unfold Hid; rw [hn.out, hU1.out, hu, if_pos (by omega)]
                  by_cases h5 : j + 1 < s.size
                  · cases h6 : isE s[j + 1]
                    · go_wp2_with fail
                      go_quiet (fail)
                      go_wp2_with (go_at_call 88; refine (either_any _ _).mono ?_; rintro e w' ⟨rfl, rfl⟩)
                      go_ret2
                      exact ⟨by rw [hf1.out, headE_drop s _ h5, h6]; exact ret_int2 (by rw [if_neg (by decide)]; omega) (by rw [if_neg (by decide)]; omega), below_drewN (hwr.alloc (by omega) _) _⟩
                    · go_wp2_with fail
                      go_quiet (fail)
                      go_wp2_with (go_at_call 88; refine (either_any _ _).mono ?_; rintro e w' ⟨rfl, rfl⟩)
                      go_ret2
                      exact ⟨by rw [hf1.out, headE_drop s _ h5, h6]; rfl, below_drewN (hwr.alloc (by omega) _) _⟩
                  · have h6 : Hid (headE (s.data.toList.drop (j + 1)) = false) := by unfold Hid; rw [List.drop_eq_nil_of_le (by rw [len_bytes]; omega)]; rfl
                    go_wp2_with fail
                    go_quiet (fail)
                    go_wp2_with fail
                    go_ret2
                    exact ⟨by rw [hf1.out, h6.out]; exact ret_int2 (by rw [if_neg (by decide)]; omega) (by rw [if_neg (by decide)]; omega), below_drewN (hwr.alloc (by omega) _) _⟩
                · have t2 : ((s[j].toNat : Int) == 104) = false := beq_f (by omega)
                  have hne2 : Hid (∀ c, s.data.toList[j]? = some c → (0 < 3 → c.toNat ≠ 115) ∧ (1 < 3 → c.toNat ≠ 109) ∧ (2 < 3 → c.toNat ≠ 104) ∧ (3 < 3 → c.toNat ≠ 100)) := fun c hc => by
                    obtain ⟨x1, x2, x3, x4⟩ := hne.out c hc
                    rw [hby.out] at hc; cases hc
                    exact ⟨fun _ => x1 (by omega), fun _ => x2 (by omega), fun _ => hm, fun _ => by omega⟩
                  go_wp2_with fail
                  go_quiet (fail)
                  go_wp2_with fail
                  go_roundw
                  case rel => exact ⟨3, by omega, rfl, rfl, rfl, below_drewN (hbr.alloc (by omega) _) _, hne2⟩
                  case measure => simp [intOf]
              · have hne2 : Hid (∀ c, s.data.toList[j]? = some c → (0 < 3 → c.toNat ≠ 115) ∧ (1 < 3 → c.toNat ≠ 109) ∧ (2 < 3 → c.toNat ≠ 104) ∧ (3 < 3 → c.toNat ≠ 100)) := fun c hc => by
                  rw [List.getElem?_eq_none (by rw [len_bytes]; omega)] at hc; cases hc
                go_wp2_with fail
                go_quiet (fail)
                go_wp2_with fail
                go_roundw
                case rel => exact ⟨3, by omega, rfl, rfl, rfl, below_drewN (hbr.alloc (by omega) _) _, hne2⟩
                case measure => simp [intOf]
            · have hidx : ∀ w, (Instr.index 122 (.agg #[.int .u8 115, .int .i64 1, .int .u8 109, .int .i64 60, .int .u8 104, .int .i64 3600, .int .u8 100, .int .i64 86400]) (.int .i64 3)).run Tryd.prog w = .ok (.agg #[.int .u8 100, .int .i64 86400]) w := fun _ => by kernel_rfl
              by_cases hj2 : j < s.size
              · have hby := Lib.hid (byte_at s j hj2)
                have hU1 : Hid (headU (s.data.toList.drop j) = unitN s[j]) := by unfold Hid; rw [drop_at s j hj2]; rfl
                by_cases hm : s[j].toNat = 100
                · have t2 : ((s[j].toNat : Int) == 100) = true := beq_t (by omega)
                  have hf1 : Hid (numberL s.data.toList = if headE (s.data.toList.drop (j + 1)) then (0, 0) else (j + 1, min (V * 86400) 1099511627777)) := by
                    have hu : unitN s[j] = 86400 := by unfold unitN; rw [hm]; rfl
                    unfold Hid; rw [hn.out, hU1.out, hu, if_pos (by omega)]
                  by_cases h5 : j + 1 < s.size
                  · cases h6 : isE s[j + 1]
                    · go_wp2_with fail
                      go_quiet (fail)
                      go_wp2_with (go_at_call 88; refine (either_any _ _).mono ?_; rintro e w' ⟨rfl, rfl⟩)
                      go_ret2
                      exact ⟨by rw [hf1.out, headE_drop s _ h5, h6]; exact ret_int2 (by rw [if_neg (by decide)]; omega) (by rw [if_neg (by decide)]; omega), below_drewN (hwr.alloc (by omega) _) _⟩
                    · go_wp2_with fail
                      go_quiet (fail)
                      go_wp2_with (go_at_call 88; refine (either_any _ _).mono ?_; rintro e w' ⟨rfl, rfl⟩)
                      go_ret2
                      exact ⟨by rw [hf1.out, headE_drop s _ h5, h6]; rfl, below_drewN (hwr.alloc (by omega) _) _⟩
                  · have h6 : Hid (headE (s.data.toList.drop (j + 1)) = false) := by unfold Hid; rw [List.drop_eq_nil_of_le (by rw [len_bytes]; omega)]; rfl
                    go_wp2_with fail
                    go_quiet (fail)
                    go_wp2_with fail
                    go_ret2
                    exact ⟨by rw [hf1.out, h6.out]; exact ret_int2 (by rw [if_neg (by decide)]; omega) (by rw [if_neg (by decide)]; omega), below_drewN (hwr.alloc (by omega) _) _⟩
                · have t2 : ((s[j].toNat : Int) == 100) = false := beq_f (by omega)
                  have hne2 : Hid (∀ c, s.data.toList[j]? = some c → (0 < 4 → c.toNat ≠ 115) ∧ (1 < 4 → c.toNat ≠ 109) ∧ (2 < 4 → c.toNat ≠ 104) ∧ (3 < 4 → c.toNat ≠ 100)) := fun c hc => by
                    obtain ⟨x1, x2, x3, x4⟩ := hne.out c hc
                    rw [hby.out] at hc; cases hc
                    exact ⟨fun _ => x1 (by omega), fun _ => x2 (by omega), fun _ => x3 (by omega), fun _ => hm⟩
                  go_wp2_with fail
                  go_quiet (fail)
                  go_wp2_with fail
                  go_roundw
                  case rel => exact ⟨4, by omega, rfl, rfl, rfl, below_drewN (hbr.alloc (by omega) _) _, hne2⟩
                  case measure => simp [intOf]
              · have hne2 : Hid (∀ c, s.data.toList[j]? = some c → (0 < 4 → c.toNat ≠ 115) ∧ (1 < 4 → c.toNat ≠ 109) ∧ (2 < 4 → c.toNat ≠ 104) ∧ (3 < 4 → c.toNat ≠ 100)) := fun c hc => by
                  rw [List.getElem?_eq_none (by rw [len_bytes]; omega)] at hc; cases hc
                go_wp2_with fail
                go_quiet (fail)
                go_wp2_with fail
                go_roundw
                case rel => exact ⟨4, by omega, rfl, rfl, rfl, below_drewN (hbr.alloc (by omega) _) _, hne2⟩
                case measure => simp [intOf]
            · have hf1 : Hid (numberL s.data.toList = if headE (s.data.toList.drop j) then (0, 0) else (j, V)) := by
                have hu : headU (s.data.toList.drop j) = 0 := by
                  by_cases hj2 : j < s.size
                  · obtain ⟨x1, x2, x3, x4⟩ := hne.out _ (byte_at s j hj2)
                    rw [drop_at s j hj2]
                    show unitN s[j] = 0
                    unfold unitN
                    rw [if_neg (x1 (by omega)), if_neg (x2 (by omega)), if_neg (x3 (by omega)), if_neg (x4 (by omega))]
                  · rw [List.drop_eq_nil_of_le (by rw [len_bytes]; omega)]; rfl
                unfold Hid; rw [hn.out, hu, if_neg (by omega)]
              by_cases h5 : j < s.size
              · cases h6 : isE s[j]
                · go_wp2_with (go_at_call 88; refine (either_any _ _).mono ?_; rintro e w' ⟨rfl, rfl⟩)
                  go_ret2
                  exact ⟨by rw [hf1.out, headE_drop s _ h5, h6]; rfl, hwr⟩
                · go_wp2_with (go_at_call 88; refine (either_any _ _).mono ?_; rintro e w' ⟨rfl, rfl⟩)
                  go_ret2
                  exact ⟨by rw [hf1.out, headE_drop s _ h5, h6]; rfl, hwr⟩
              · have h6 : Hid (headE (s.data.toList.drop j) = false) := by unfold Hid; rw [List.drop_eq_nil_of_le (by rw [len_bytes]; omega)]; rfl
                go_wp2_with fail
                go_ret2
                exact ⟨by rw [hf1.out, h6.out]; rfl, hwr⟩
end Go.Proofs.YtemhiiignamkjaaDoor
