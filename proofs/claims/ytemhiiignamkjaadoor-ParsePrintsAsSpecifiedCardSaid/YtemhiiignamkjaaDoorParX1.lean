/-
  Layer 12 (parse), printing: isWord, within; texts written one behind the other.
-/
import Derived.Test.YtemhiiignamkjaaDoorParW9
import Derived.Test.YtemhiiignamkjaaDoorBldW
namespace Go.Proofs.YtemhiiignamkjaaDoor
open Go.RowKit LexP ParP
attribute [local go_sem] Oper.semAt_some

/-- A text that is one token, a word. -/
def isWordB (s : ByteArray) : Bool := match tokens s with
  | .ok [t] => decide (t.kind = 1) && (t.text.toList == s.toList)
  | _ => false
set_option maxRecDepth 100000 in
set_option maxHeartbeats 12800000 in
theorem isWord_any (s : ByteArray) (w : World) (hs : s.size ≤ maxLen) (hU : UnitsAt w) : Calls Tryd.prog 61 #[.string s] w fun e w' => e = .returned (.bool (isWordB s)) ∧ Below w.heap.size w w' := by
  have hTK := Lib.hid (Tokens_any s w hs hU)
  clear hs hU
  go_enter Tryd.func61, Tryd.ntmps61
  go_wp2_with fail
  refine hTK.out.mono ?_
  rintro e w1 ⟨v, pos, err, rfl, hres, hB1⟩
  have HB := Lib.hid hB1
  clear hTK hB1
  cases htk : tokens s with
  | err a0 e0 =>
    rw [htk] at hres
    obtain ⟨rfl, rfl, rfl⟩ := hres
    have hne := tokens_errs htk
    have d1 : (err == 0) = false := beq_eq_false_iff_ne.2 hne
    have hP : Hid (isWordB s = false) := by unfold Hid isWordB; rw [htk]
    clear htk hne
    go_wp2_with fail
    go_ret
    exact ⟨by rw [hP.out]; rfl, HB.out⟩
  | ok l =>
    rw [htk] at hres
    obtain ⟨rfl, rfl, hown⟩ := hres
    obtain ⟨A, c, rfl⟩ := own_slice hown
    match l, htk, hown with
    | [], htk, hown =>
      have hP : Hid (isWordB s = false) := by unfold Hid isWordB; rw [htk]
      clear htk hown
      go_wp2_with fail
      go_ret
      exact ⟨by rw [hP.out]; rfl, HB.out⟩
    | [t], htk, hown =>
      obtain ⟨g, rfl, _⟩ := own_none hown (by simp)
      have hc := hown.cells (g := g) rfl
      have c0 : w1.cell? ⟨g, 0, none⟩ = some (.int .i64 t.kind) := by have h := hc 0 _ rfl; rwa [Addr.add_lit] at h
      have c1 : w1.cell? ⟨g, 1, none⟩ = some (.string t.text) := by have h := hc 1 _ rfl; rwa [Addr.add_lit] at h
      have hP : Hid (isWordB s = (decide (t.kind = 1) && (t.text.toList == s.toList))) := by unfold Hid isWordB; rw [htk]
      clear htk hown hc
      cases hk : decide (t.kind = 1)
      case true =>
        have d2 : ((t.kind : Int) == 1) = true := by rw [beq_iff_eq]; have := of_decide_eq_true hk; omega
        rw [hk] at hP
        clear hk
        go_wp2_with fail
        go_ret
        exact ⟨by rw [hP.out]; rfl, HB.out⟩
      case false =>
        have d2 : ((t.kind : Int) == 1) = false := by rw [beq_eq_false_iff_ne]; have := of_decide_eq_false hk; omega
        rw [hk] at hP
        clear hk
        go_wp2_with fail
        go_ret
        exact ⟨by rw [hP.out]; rfl, HB.out⟩
    | t :: u :: r, htk, hown =>
      have hP : Hid (isWordB s = false) := by unfold Hid isWordB; rw [htk]
      obtain ⟨L, hL⟩ : ∃ L, (t :: u :: r).length = L := ⟨_, rfl⟩
      have hL2 : 2 ≤ L := by rw [← hL]; simp
      have d2 : ((L : Int) == 1) = false := beq_eq_false_iff_ne.2 (by omega)
      rw [hL]
      clear htk hown hL
      go_wp2_with fail
      go_ret
      exact ⟨by rw [hP.out]; rfl, HB.out⟩
/-- Numbers that all lie from 0 to a greatest one. -/
def withinB (most : Int) (l : List Int) : Bool := l.all fun x => !(decide (x < 0)) && !(decide (most < x))
set_option maxRecDepth 100000 in
set_option maxHeartbeats 12800000 in
theorem within_any (most : Int) (l : List Int) (b c : Nat) (w : World) (hb : Blk w b 3 (l.map (Value.int .i64)).toArray) (hl : l.length ≤ 1000) :
    Calls Tryd.prog 62 #[.int .i64 most, .slice (some ⟨b, 0, none⟩) l.length c] w fun e w' => e = .returned (.bool (withinB most l)) ∧ w' = w := by
  have hc : Hid (∀ (i : Nat) (x : Int), l[i]? = some x → w.cell? ⟨b, i, none⟩ = some (.int .i64 x)) := fun i x h => by
    rw [hb.cell i]
    simp [h]
  obtain ⟨L, hL⟩ : ∃ L, l.length = L := ⟨_, rfl⟩
  have hLH := Lib.hid hL
  rw [hL] at hl ⊢
  clear hb hL
  go_enter Tryd.func62, Tryd.ntmps62
  go_wp2_with fail
  go_loopw [9] (fun v wr => ∃ i : Nat, v = .int .i64 i ∧ i ≤ L ∧ Hid (withinB most l = withinB most (l.drop i)) ∧ Hid (wr = w)) (fun v _ => L - (intOf v).toNat)
  case atStart => exact ⟨0, rfl, Nat.zero_le _, rfl, rfl⟩
  case round =>
    obtain ⟨i, rfl, hi, hE, hw⟩ := hrel
    by_cases hlt : i < L
    · have d1 : decide (i < L) = true := decide_eq_true hlt
      have d2 : decide ((i : Int) < (L : Int)) = true := decide_eq_true (by omega)
      obtain ⟨x, hx⟩ : ∃ x, l[i]? = some x := ⟨_, List.getElem?_eq_getElem (by rw [hLH.out]; exact hlt)⟩
      have cx := hc.out i x hx
      rw [← hw.out] at cx
      have hstep : Hid (withinB most (l.drop i) = ((!(decide (x < 0)) && !(decide (most < x))) && withinB most (l.drop (i + 1)))) := by
        obtain ⟨h1, h2⟩ := List.getElem?_eq_some_iff.1 hx
        unfold Hid withinB
        rw [List.drop_eq_getElem_cons h1, h2, List.all_cons]
      have q0 : (0 : Int) ≤ (i : Int) := by omega
      have q1 : (i : Int) < (L : Int) := by omega
      have hltH := Lib.hid hlt
      clear hx hlt
      cases h1 : decide (x < 0)
      case true =>
        rw [h1] at hstep
        have n1 : x < 0 := of_decide_eq_true h1
        go_wp2_with fail
        go_ret
        exact ⟨by rw [hE.out, hstep.out]; rfl, hw.out⟩
      case false =>
        have n1 : ¬ x < 0 := of_decide_eq_false h1
        cases h2 : decide (most < x)
        case true =>
          rw [h1, h2] at hstep
          have n2 : most < x := of_decide_eq_true h2
          go_wp2_with fail
          go_ret
          exact ⟨by rw [hE.out, hstep.out]; rfl, hw.out⟩
        case false =>
          have n2 : ¬ most < x := of_decide_eq_false h2
          rw [h1, h2] at hstep
          go_wp2_with fail
          go_roundw
          case rel => exact ⟨i + 1, by go_num, hltH.out, hE.out.trans (by rw [hstep.out]; simp), hw.out⟩
          case measure => have := hltH.out; simp [intOf]; omega
    · have d1 : decide (i < L) = false := decide_eq_false hlt
      have d2 : decide ((i : Int) < (L : Int)) = false := decide_eq_false (by omega)
      have hall : Hid (withinB most l = true) := hE.out.trans (by rw [List.drop_eq_nil_of_le (by rw [hLH.out]; omega)]; rfl)
      clear hlt
      go_wp2_with fail
      go_ret
      exact ⟨by rw [hall.out]; rfl, hw.out⟩
/-- A builder that holds bytes. -/
def BIs (w : World) (B b : Nat) (l : List UInt8) : Prop := Lib.IsBuilder 84 5 B b (Lib.byteCells l) w
theorem strCells_eq (s : ByteArray) : Lib.strCells s = Lib.byteCells s.data.toList := by
  rfl
theorem byteCells_app (l m : List UInt8) : Lib.byteCells (l ++ m) = Lib.byteCells l ++ Lib.byteCells m := by
  simp [Lib.byteCells]
theorem byteCells_len (l : List UInt8) : (Lib.byteCells l).length = l.length := by
  simp [Lib.byteCells]
theorem write_any {B b : Nat} {l : List UInt8} {s : ByteArray} {w : World} (h : BIs w B b l) (hlen : l.length + s.size ≤ 140737488355328) (hBw : B ≤ w.heap.size) :
    Calls Tryd.prog 38 #[.pointer (some ⟨b, 0, none⟩), .string s] w fun e w' => e = .returned (.tuple #[.int .i64 s.size, .nilIface]) ∧ BIs w' B b (l ++ s.data.toList) ∧ Below B w w' ∧ Kept8 w w' b := by
  refine (writeS_any B b (Lib.byteCells l) s w h (by rw [byteCells_len]; exact hlen) hBw).mono ?_
  rintro e w' ⟨rfl, h1, h2, h3⟩
  refine ⟨rfl, ?_, h2, h3⟩
  unfold BIs
  rw [byteCells_app, ← strCells_eq]
  exact .inr h1
end Go.Proofs.YtemhiiignamkjaaDoor
