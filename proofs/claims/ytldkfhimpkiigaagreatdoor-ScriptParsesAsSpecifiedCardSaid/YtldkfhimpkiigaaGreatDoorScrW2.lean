/-
  Layer 46 (script): decimal, Data; numbers in rows; isStep.
-/
import Derived.Test.YtldkfhimpkiigaaGreatDoorScrW1
import Derived.Test.YtldkfhimpkiigaaGreatDoorScrP3
import Derived.Test.YtldkfhimpkiigaaGreatDoorShelf
import Derived.Lib.AppendIntMem
namespace Go.Proofs.YtldkfhimpkiigaaGreatDoor
open Go.RowKit ScrP
attribute [local go_sem] Oper.semAt_some

theorem below_grow (w : World) (k : Nat) (os : Array Obj) : Below w.heap.size w (Sort.grow (w.drewN k) os) := by
  refine ⟨rfl, rfl, rfl, ?_, fun j hj => ?_⟩
  · show w.heap.size ≤ (w.heap ++ os).size
    rw [Array.size_append]
    omega
  · show (w.heap ++ os)[j]? = w.heap[j]?
    rw [Array.getElem?_append_left hj]
/-- The powers of ten lie where the library lays them; the library's two errors and bytealg's MaxLen hold something. -/
structure LibAt (w : World) : Prop where
  pow : Lib.TabBelow Tryz.prog w.heap.size w "internal/strconv.uint64pow10" .u64 Lib.pow10Tab
  syn : 4 < w.heap.size ∧ ∃ t p, w.cell? ⟨4, 0, none⟩ = some (.iface t p)
  rng : 5 < w.heap.size ∧ ∃ t p, w.cell? ⟨5, 0, none⟩ = some (.iface t p)
  mx : 1 < w.heap.size ∧ ∃ m, w.cell? ⟨1, 0, none⟩ = some (.int .i64 m)
theorem LibAt.below {w w' : World} (h : LibAt w) (hb : Below w.heap.size w w') : LibAt w' := by
  obtain ⟨a, t, p, h1⟩ := h.syn
  obtain ⟨b, u, q, h2⟩ := h.rng
  obtain ⟨c, m, h3⟩ := h.mx
  exact ⟨fun w2 h2 => h.pow w2 (hb.trans (h2.mono hb.size)), ⟨Nat.lt_of_lt_of_le a hb.size, t, p, (hb.cell (p := ⟨_, _, none⟩) a).trans h1⟩, ⟨Nat.lt_of_lt_of_le b hb.size, u, q, (hb.cell (p := ⟨_, _, none⟩) b).trans h2⟩, ⟨Nat.lt_of_lt_of_le c hb.size, m, (hb.cell (p := ⟨_, _, none⟩) c).trans h3⟩⟩
theorem itoa_any (n : Int) (h0 : -9223372036854775808 ≤ n) (h1 : n ≤ 9223372036854775807) (w : World) (hp : LibAt w) :
    Calls Tryz.prog 44 #[.int .i64 n] w fun e w' => e = .returned (.string ⟨(Lib.itoa n).toArray⟩) ∧ Below w.heap.size w w' := by
  refine (Tryz.strconv_Itoa n h0 h1 w hp.pow.here).mono ?_
  rintro e w' ⟨rfl, k, os, rfl⟩
  exact ⟨rfl, below_grow w k os⟩
/-- What Atoi gives: a number, or an error. -/
def AtoiPost (s : ByteArray) (w : World) (e : Ending) (w' : World) : Prop :=
  Below w.heap.size w w' ∧ ((∃ v, Lib.atoiAll s.data.toList = .ok v ∧ -9223372036854775808 ≤ v ∧ v ≤ 9223372036854775807 ∧ e = .returned (.tuple #[.int .i64 v, .nilIface])) ∨ ((∀ v, Lib.atoiAll s.data.toList ≠ .ok v) ∧ ∃ (n : Int) (t : TypeId) (p : Value), e = .returned (.tuple #[.int .i64 n, .iface t p])))
theorem atoi_bounds {l : List UInt8} {v : Int} (h : Lib.atoiAll l = .ok v) : -9223372036854775808 ≤ v ∧ v ≤ 9223372036854775807 := by
  unfold Lib.atoiAll at h
  split at h
  · cases h
  · dsimp only at h
    split at h
    · cases h
    · cases h
    · next u hu =>
      split at h
      · cases h
      · split at h
        · cases h
        · injection h with h
          split at h <;> omega
theorem atoi_any (s : ByteArray) (w : World) (hs : s.size ≤ 140737488355328) (hp : LibAt w) : Calls Tryz.prog 71 #[.string s] w (AtoiPost s w) := by
  cases h : Lib.atoiAll s.data.toList with
  | ok v =>
    refine (Tryz.strconv_Atoi_ok s (by omega) v h w).mono ?_
    rintro e w' ⟨rfl, hw⟩
    obtain ⟨b1, b2⟩ := atoi_bounds h
    refine ⟨?_, .inl ⟨v, h, b1, b2, rfl⟩⟩
    rcases hw with rfl | ⟨t, rfl⟩
    · exact Below.refl _ _
    · exact Go.Joins.below_bytesWorld _ w 5 t (Nat.le_refl _)
  | «syntax» =>
    obtain ⟨_, t, p, h1⟩ := hp.syn
    refine (Tryz.strconv_Atoi_syntax s (by omega) h _ w h1 (.inr ⟨t, p, rfl⟩)).mono ?_
    rintro e w' ⟨N, rfl, _, _, hB⟩
    exact ⟨hB, .inr ⟨(fun v e => by rw [h] at e; cases e), 0, _, _, rfl⟩⟩
  | range =>
    obtain ⟨_, t, p, h1⟩ := hp.rng
    refine (Tryz.strconv_Atoi_range s (by omega) h _ w h1 (.inr ⟨t, p, rfl⟩)).mono ?_
    rintro e w' ⟨N, rfl, _, _, hB⟩
    exact ⟨hB, .inr ⟨(fun v e => by rw [h] at e; cases e), _, _, _, rfl⟩⟩
/-- What decimal gives. -/
def DecPost (s : ByteArray) (w : World) (e : Ending) (w' : World) : Prop :=
  Below w.heap.size w w' ∧ ∃ n : Int, e = .returned (.tuple #[.int .i64 n, .bool (decOk s.data.toList)]) ∧ (decOk s.data.toList = true → n = (decVal s.data.toList : Int))
set_option maxRecDepth 100000 in
set_option maxHeartbeats 4000000 in
theorem decimal_any (s : ByteArray) (w : World) (hs : s.size ≤ 140737488355328) (hp : LibAt w) : Calls Tryz.prog 34 #[.string s] w (DecPost s w) := by
  have HA := Lib.hid (atoi_any s w hs hp)
  have HL := Lib.hid hp
  have hss : s.data.toList.length = s.size := Array.length_toList
  have hsH := Lib.hid hss
  clear hp hss
  go_enter Tryz.func34, Tryz.ntmps34
  go_wp2_with fail
  refine HA.out.mono ?_
  rintro e w1 ⟨hB1, hh⟩
  have B1 := Lib.hid hB1
  clear HA hB1
  rcases hh with ⟨v, hv, b1, b2, rfl⟩ | ⟨hno, n, t, p, rfl⟩
  case inr =>
    have hR : Hid (decOk s.data.toList = false) := by
      unfold Hid
      cases e : decOk s.data.toList with
      | false => rfl
      | true => exact absurd (decOk_atoi e) (hno _)
    clear hno
    go_wp2_with fail
    go_ret2
    exact ⟨B1.out, n, by rw [hR.out]; rfl, fun e => by rw [hR.out] at e; cases e⟩
  case inl =>
    have hvH := Lib.hid hv
    clear hv
    by_cases h13 : s.size ≤ 13
    case neg =>
      have d1 : decide (s.size ≤ 13) = false := decide_eq_false h13
      have d2 : decide ((s.size : Int) ≤ 13) = false := decide_eq_false (by omega)
      have hR : Hid (decOk s.data.toList = false) := by
        unfold Hid
        cases e : decOk s.data.toList with
        | false => rfl
        | true => have := (decOk_iff.1 e).1.2; rw [hsH.out] at this; exact absurd this h13
      clear h13
      go_wp2_with fail
      go_ret2
      exact ⟨B1.out, v, by rw [hR.out]; rfl, fun e => by rw [hR.out] at e; cases e⟩
    case pos =>
      have d1 : decide (s.size ≤ 13) = true := decide_eq_true h13
      have d2 : decide ((s.size : Int) ≤ 13) = true := decide_eq_true (by omega)
      have HI := Lib.hid (itoa_any v b1 b2 w1 (HL.out.below B1.out))
      have h13H := Lib.hid h13
      clear h13
      go_wp2_with fail
      refine HI.out.mono ?_
      rintro e w2 ⟨rfl, hB2⟩
      have B2 := Lib.hid (B1.out.trans (hB2.mono B1.out.size))
      clear HI hB2 B1
      by_cases hi : Lib.itoa v = s.data.toList
      case neg =>
        have hR : Hid (decOk s.data.toList = false) := by
          unfold Hid
          cases e : decOk s.data.toList with
          | false => rfl
          | true =>
            have h1 := decOk_atoi e
            rw [hvH.out] at h1
            injection h1 with h1
            rw [h1] at hi
            exact absurd (decOk_itoa e) hi
        have m1 : ((⟨(Lib.itoa v).toArray⟩ : ByteArray).toList == s.toList) = false := by
          rw [beq_eq_false_iff_ne, ByteArray.toList_eq, ByteArray.toList_eq]
          exact hi
        obtain ⟨T, hT⟩ : ∃ T, (⟨(Lib.itoa v).toArray⟩ : ByteArray) = T := ⟨_, rfl⟩
        rw [hT] at m1 ⊢
        have m2 : ¬ T.toList = s.toList := beq_eq_false_iff_ne.1 m1
        clear hi hT
        go_wp2_with fail
        go_ret2
        exact ⟨B2.out, v, by rw [hR.out]; rfl, fun e => by rw [hR.out] at e; cases e⟩
      case pos =>
        have m1 : ((⟨(Lib.itoa v).toArray⟩ : ByteArray).toList == s.toList) = true := by
          rw [beq_iff_eq, ByteArray.toList_eq, ByteArray.toList_eq]
          exact hi
        obtain ⟨T, hT⟩ : ∃ T, (⟨(Lib.itoa v).toArray⟩ : ByteArray) = T := ⟨_, rfl⟩
        rw [hT] at m1 ⊢
        have m2 : T.toList = s.toList := beq_iff_eq.1 m1
        have hiH := Lib.hid hi
        clear hi hT
        by_cases h0 : 0 ≤ v
        case pos =>
          have d3 : decide (0 ≤ v) = true := decide_eq_true h0
          have hR := Lib.hid (decOk_of (by rw [hsH.out]; exact h13H.out) hiH.out h0)
          clear h0
          go_wp2_with fail
          go_ret2
          exact ⟨B2.out, v, by rw [hR.out.1]; rfl, fun _ => hR.out.2⟩
        case neg =>
          have d3 : decide (0 ≤ v) = false := decide_eq_false h0
          have hR : Hid (decOk s.data.toList = false) := by
            unfold Hid
            cases e : decOk s.data.toList with
            | false => rfl
            | true =>
              have h1 := decOk_atoi e
              rw [hvH.out] at h1
              injection h1 with h1
              omega
          clear h0
          go_wp2_with fail
          go_ret2
          exact ⟨B2.out, v, by rw [hR.out]; rfl, fun e => by rw [hR.out] at e; cases e⟩
end Go.Proofs.YtldkfhimpkiigaaGreatDoor
