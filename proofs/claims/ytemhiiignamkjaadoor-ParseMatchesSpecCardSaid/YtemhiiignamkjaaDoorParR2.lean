/-
  Layer 12 (parse), the specification: index, word, digits.
-/
import Derived.Test.YtemhiiignamkjaaDoorParR1
import Derived.Laws.IdiomStrings
import Derived.Laws.Concat
namespace Go.Proofs.YtemhiiignamkjaaDoor
open Go.RowKit LexP ParP
attribute [local go_sem] Oper.semAt_some

set_option maxRecDepth 100000 in
set_option maxHeartbeats 4000000 in
theorem rindex_any (w : World) (B : Nat) (v : Value) (l : List Typ) (x : ByteArray) (hl : l.length ≤ 1000000) (hr : RowAt w B v l.length (typC l)) :
    Calls Tryd.prog 35 #[v, .string x] w fun e w' => e = .returned (.int .i64 (findI (l.map Typ.name) x)) ∧ w' = w := by
  obtain ⟨A, c, rfl, _⟩ := id hr
  have RT := Lib.hid hr
  obtain ⟨n, hn⟩ : ∃ n, l.length = n := ⟨_, rfl⟩
  have hnH := Lib.hid hn
  rw [hn] at hl ⊢
  clear hr hn
  go_enter Tryd.func35, Tryd.ntmps35
  go_wp2_with fail
  go_loopw [5] (fun v5 wr => ∃ i : Nat, v5 = .int .i64 i ∧ i ≤ n ∧ Hid (findW (l.map Typ.name) x = i + findW ((l.map Typ.name).drop i) x) ∧ wr = w) (fun v5 _ => n - (intOf v5).toNat)
  case atStart => exact ⟨0, rfl, Nat.zero_le _, by unfold Hid; rw [List.drop_zero, Nat.zero_add], rfl⟩
  case round =>
  obtain ⟨i, rfl, hi, hE, hwr⟩ := hrel
  rw [hwr]
  clear hwr
  by_cases hlt : i < n
  · have d1 : decide (i < n) = true := decide_eq_true hlt
    have d2 : decide ((i : Int) < (n : Int)) = true := decide_eq_true (by omega)
    obtain ⟨t, ht⟩ : ∃ t, l[i]? = some t := ⟨_, List.getElem?_eq_getElem (by rw [hnH.out]; exact hlt)⟩
    obtain ⟨rb, ro, rfl, _, k0, _, _⟩ := RT.out.typ i t ht
    obtain ⟨z, hz⟩ : ∃ z, t.name = z := ⟨_, rfl⟩
    rw [hz] at k0
    have hstep : Hid (findW ((l.map Typ.name).drop i) x = if (z.toList == x.toList) = true then 0 else findW ((l.map Typ.name).drop (i + 1)) x + 1) := by
      have ht2 : (l.map Typ.name)[i]? = some z := by rw [List.getElem?_map, ht, ← hz]; rfl
      obtain ⟨h1, h2⟩ := List.getElem?_eq_some_iff.1 ht2
      unfold Hid
      rw [List.drop_eq_getElem_cons h1, h2, findW_cons]
    have q0 : (0 : Int) ≤ (i : Int) := by omega
    have q1 : (i : Int) < (n : Int) := by omega
    have q2 : (n : Int) ≤ 1000000 := by omega
    have hltH := Lib.hid hlt
    clear ht hlt hz
    cases hzx : (z.toList == x.toList)
    case true =>
      rw [hzx, if_pos rfl] at hstep
      have hR : Hid (findI (l.map Typ.name) x = (i : Int)) := by
        unfold Hid findI
        rw [hE.out, hstep.out, List.length_map, hnH.out, if_pos (by have := hltH.out; omega)]
        rfl
      go_wp2_with fail
      go_ret
      exact ⟨by rw [hR.out]; rfl, rfl⟩
    case false =>
      rw [hzx, if_neg (by decide)] at hstep
      have hne : ¬ z.toList = x.toList := beq_eq_false_iff_ne.1 hzx
      go_wp2_with fail
      go_roundw
      case rel => exact ⟨i + 1, by go_num, hltH.out, by unfold Hid; rw [hE.out, hstep.out]; omega, trivial⟩
      case measure => have := hltH.out; simp [intOf]; omega
  · have d1 : decide (i < n) = false := decide_eq_false hlt
    have d2 : decide ((i : Int) < (n : Int)) = false := decide_eq_false (by omega)
    have hR : Hid (findI (l.map Typ.name) x = -1) := by
      unfold Hid findI
      rw [hE.out, List.drop_eq_nil_of_le (by rw [List.length_map, hnH.out]; omega), List.length_map, hnH.out, if_neg (by omega)]
    clear hlt
    go_wp2_with fail
    go_ret
    exact ⟨by rw [hR.out]; rfl, rfl⟩
set_option maxRecDepth 100000 in
set_option maxHeartbeats 4000000 in
theorem rword_any (s : ByteArray) (w : World) (hs : s.size ≤ maxLen) : Calls Tryd.prog 65 #[.string s] w fun e w' => e = .returned (.bool (isWordB s)) ∧ Below w.heap.size w w' := by
  unfold maxLen at hs
  by_cases hbig : 4000 < s.size
  · have d1 : decide (4000 < s.size) = true := decide_eq_true hbig
    have d2 : decide ((4000 : Int) < (s.size : Int)) = true := decide_eq_true (by omega)
    have hP : Hid (isWordB s = false) := by unfold Hid isWordB tokens; rw [if_pos hbig]
    clear hs hbig
    go_enter Tryd.func65, Tryd.ntmps65
    go_wp2_with fail
    go_ret
    exact ⟨by rw [hP.out]; rfl, Below.refl _ _⟩
  have d1 : decide (4000 < s.size) = false := decide_eq_false hbig
  have d2 : decide ((4000 : Int) < (s.size : Int)) = false := decide_eq_false (by omega)
  have HR := Lib.hid (ref_Tokens_any s w (by omega))
  clear hs hbig
  go_enter Tryd.func65, Tryd.ntmps65
  go_wp2_with fail
  refine HR.out.mono ?_
  rintro e w1 ⟨v, pos, err, rfl, hres, hB1⟩
  have B1 := Lib.hid hB1
  clear hB1 HR
  cases htk : tokens s with
  | err a0 e0 =>
    rw [htk] at hres
    obtain ⟨rfl, rfl, rfl⟩ := hres
    have t0 : (err == 0) = false := beq_eq_false_iff_ne.2 (tokens_errs htk)
    have hP : Hid (isWordB s = false) := by unfold Hid isWordB; rw [htk]
    clear htk
    go_upto_region 4 with fail
    refine world_is (P := fun W => Code.wp _ _ _ _ W) (fun W2 hW2 => ?_)
    have X2 : Hid (Blk W2 w1.heap.size 44 #[.slice none 0 0, .int .i64 (a0 : Int), .int .i64 err]) := by unfold Hid; rw [← hW2]; exact Blk.new _ _ _
    have B2 : Hid (Below w.heap.size w W2) := by unfold Hid; rw [← hW2]; exact B1.out.alloc B1.out.size _
    obtain ⟨g, hg⟩ : ∃ g, w1.heap.size = g := ⟨_, rfl⟩
    rw [hg] at X2 ⊢
    have c2 := X2.out.cell 2
    clear hW2 hg B1
    go_wp2_with fail
    go_ret
    exact ⟨by rw [hP.out]; rfl, B2.out⟩
  | ok l =>
    rw [htk] at hres
    obtain ⟨rfl, rfl, hown⟩ := hres
    have hT1 := tkAt_own hown
    obtain ⟨A, c, rfl⟩ := own_slice hown
    obtain ⟨n, hn⟩ : ∃ n, l.length = n := ⟨_, rfl⟩
    have hnH := Lib.hid hn
    have T1 := Lib.hid hT1
    rw [hn]
    have htkH := Lib.hid htk
    have hn4 : n ≤ 4000 := by have := tokens_facts htk; omega
    clear htk hown hT1 hn
    go_upto_region 4 with fail
    refine world_is (P := fun W => Code.wp _ _ _ _ W) (fun W2 hW2 => ?_)
    have X2 : Hid (Blk W2 w1.heap.size 44 #[.slice A n c, .int .i64 0, .int .i64 0]) := by unfold Hid; rw [← hW2]; exact Blk.new _ _ _
    have B2 : Hid (Below w.heap.size w W2) := by unfold Hid; rw [← hW2]; exact B1.out.alloc B1.out.size _
    have T2 : Hid (TkAt W2 w1.heap.size (.slice A l.length c) l) := T1.out.below (by rw [← hW2]; exact (Below.refl _ _).alloc (Nat.le_refl _) _)
    obtain ⟨g, hg⟩ : ∃ g, w1.heap.size = g := ⟨_, rfl⟩
    rw [hg] at X2 T2 ⊢
    have c0 := X2.out.cell 0
    have c2 := X2.out.cell 2
    clear hW2 hg B1 T1
    by_cases h1 : n = 1
    · obtain ⟨t, ht⟩ : ∃ t, l = [t] := List.length_eq_one_iff.1 (hnH.out.trans h1)
      obtain ⟨tb, tf, rfl, _, k0, k1, _, _⟩ := T2.out.at_ 0 t (by rw [ht]; rfl)
      have hP : Hid (isWordB s = (decide (t.kind = 1) && (t.text.toList == s.toList))) := by unfold Hid isWordB; rw [htkH.out, ht]
      subst h1
      rw [Nat.zero_mul, Nat.add_zero] at k0 k1
      obtain ⟨tx, htx⟩ : ∃ x, t.text = x := ⟨_, rfl⟩
      obtain ⟨tk, htk⟩ : ∃ x, t.kind = x := ⟨_, rfl⟩
      rw [htx] at k1 hP
      rw [htk] at k0 hP
      clear ht htx htk hn4
      cases hk : decide (tk = 1)
      case true =>
        have d3 : ((tk : Int) == 1) = true := by rw [beq_iff_eq]; have := of_decide_eq_true hk; omega
        rw [hk] at hP
        clear hk
        go_wp2_with fail
        go_ret
        exact ⟨by rw [hP.out]; rfl, B2.out⟩
      case false =>
        have d3 : ((tk : Int) == 1) = false := by rw [beq_eq_false_iff_ne]; have := of_decide_eq_false hk; omega
        rw [hk] at hP
        clear hk
        go_wp2_with fail
        go_ret
        exact ⟨by rw [hP.out]; rfl, B2.out⟩
    · have hP : Hid (isWordB s = false) := by
        unfold Hid isWordB
        rw [htkH.out]
        match l, hnH.out with
        | [], _ => rfl
        | [_], e => exact absurd e.symm h1
        | _ :: _ :: _, _ => rfl
      have d3 : ((n : Int) == 1) = false := by rw [beq_eq_false_iff_ne]; omega
      have d4 : (n == 1) = false := by rw [beq_eq_false_iff_ne]; exact h1
      clear h1 hn4
      go_wp2_with fail
      go_ret
      exact ⟨by rw [hP.out]; rfl, B2.out⟩
/-- One byte as a text. -/
theorem conv_byte (w : World) (b : Nat) (d : Nat) (hd : d < 256) (hb : Blk w b 5 #[.int .u8 (d : Int)]) : (convert 82 9 (.slice (some ⟨b, 0, none⟩) 1 1)).run Tryd.prog w = .ok (.string ⟨#[UInt8.ofNat d]⟩) w :=
  run_convert_bytes_back (P := Tryd.prog) w 82 9 5 ⟨b, 0, none⟩ 1 [UInt8.ofNat d] Tryd.underlying82 Tryd.underlying5 Tryd.underlying9 (fun j hj => by
    have hj0 : j = 0 := by simp at hj; exact hj
    subst hj0
    rw [Addr.add_lit, Nat.zero_add, hb.cell 0]
    show some (Value.int .u8 (d : Int)) = some (Value.int .u8 ((UInt8.ofNat d).toNat : Int))
    rw [UInt8.toNat_ofNat', Nat.mod_eq_of_lt hd])
end Go.Proofs.YtemhiiignamkjaaDoor
