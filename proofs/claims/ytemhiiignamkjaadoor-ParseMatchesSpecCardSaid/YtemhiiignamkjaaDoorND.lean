/-
  Layer 12 (parse), printing: isWord, within; texts written one behind the other.
  Layer 12 (parse), printing: put and number, the two closures of Print.
  Layer 12 (parse), printing: number, the second closure of Print.
-/
import Derived.Test.YtemhiiignamkjaaDoorParW9
import Derived.Test.YtemhiiignamkjaaDoorBldW
import Derived.Lib.AppendIntMem
namespace Go.Proofs.YtemhiiignamkjaaDoor
open Go.RowKit LexP ParP
attribute [local go_sem] Oper.semAt_some

/-- A text that is one token, a word. -/
def isWordB (s : ByteArray) : Bool := match tokens s with
  | .ok [t] => decide (t.kind = 1) && (t.text.toList == s.toList)
  | _ => false
set_option maxRecDepth 100000 in
set_option maxHeartbeats 12800000 in
theorem isWord_any (s : ByteArray) (w : World) (hs : s.size ≤ maxLen) (hU : UnitsAt w) : Calls Tryd.prog 61 #[.string s] w fun e w' => e = .returned (.bool (isWordB s)) ∧ Below w.heap.size w w' := by
  have hTK := Lib.hid (Tokens_any s w hs hU)
  clear hs hU
  go_enter Tryd.func61, Tryd.ntmps61
  go_wp2_with fail
  refine hTK.out.mono ?_
  rintro e w1 ⟨v, pos, err, rfl, hres, hB1⟩
  have HB := Lib.hid hB1
  clear hTK hB1
  cases htk : tokens s with
  | err a0 e0 =>
    rw [htk] at hres
    obtain ⟨rfl, rfl, rfl⟩ := hres
    have hne := tokens_errs htk
    have d1 : (err == 0) = false := beq_eq_false_iff_ne.2 hne
    have hP : Hid (isWordB s = false) := by unfold Hid isWordB; rw [htk]
    clear htk hne
    go_wp2_with fail
    go_ret
    exact ⟨by rw [hP.out]; rfl, HB.out⟩
  | ok l =>
    rw [htk] at hres
    obtain ⟨rfl, rfl, hown⟩ := hres
    obtain ⟨A, c, rfl⟩ := own_slice hown
    match l, htk, hown with
    | [], htk, hown =>
      have hP : Hid (isWordB s = false) := by unfold Hid isWordB; rw [htk]
      clear htk hown
      go_wp2_with fail
      go_ret
      exact ⟨by rw [hP.out]; rfl, HB.out⟩
    | [t], htk, hown =>
      obtain ⟨g, rfl, _⟩ := own_none hown (by simp)
      have hc := hown.cells (g := g) rfl
      have c0 : w1.cell? ⟨g, 0, none⟩ = some (.int .i64 t.kind) := by have h := hc 0 _ rfl; rwa [Addr.add_lit] at h
      have c1 : w1.cell? ⟨g, 1, none⟩ = some (.string t.text) := by have h := hc 1 _ rfl; rwa [Addr.add_lit] at h
      have hP : Hid (isWordB s = (decide (t.kind = 1) && (t.text.toList == s.toList))) := by unfold Hid isWordB; rw [htk]
      clear htk hown hc
      cases hk : decide (t.kind = 1)
      case true =>
        have d2 : ((t.kind : Int) == 1) = true := by rw [beq_iff_eq]; have := of_decide_eq_true hk; omega
        rw [hk] at hP
        clear hk
        go_wp2_with fail
        go_ret
        exact ⟨by rw [hP.out]; rfl, HB.out⟩
      case false =>
        have d2 : ((t.kind : Int) == 1) = false := by rw [beq_eq_false_iff_ne]; have := of_decide_eq_false hk; omega
        rw [hk] at hP
        clear hk
        go_wp2_with fail
        go_ret
        exact ⟨by rw [hP.out]; rfl, HB.out⟩
    | t :: u :: r, htk, hown =>
      have hP : Hid (isWordB s = false) := by unfold Hid isWordB; rw [htk]
      obtain ⟨L, hL⟩ : ∃ L, (t :: u :: r).length = L := ⟨_, rfl⟩
      have hL2 : 2 ≤ L := by rw [← hL]; simp
      have d2 : ((L : Int) == 1) = false := beq_eq_false_iff_ne.2 (by omega)
      rw [hL]
      clear htk hown hL
      go_wp2_with fail
      go_ret
      exact ⟨by rw [hP.out]; rfl, HB.out⟩
/-- Numbers that all lie from 0 to a greatest one. -/
def withinB (most : Int) (l : List Int) : Bool := l.all fun x => !(decide (x < 0)) && !(decide (most < x))
set_option maxRecDepth 100000 in
set_option maxHeartbeats 12800000 in
theorem within_any (most : Int) (l : List Int) (b c : Nat) (w : World) (hb : Blk w b 3 (l.map (Value.int .i64)).toArray) (hl : l.length ≤ 1000) :
    Calls Tryd.prog 62 #[.int .i64 most, .slice (some ⟨b, 0, none⟩) l.length c] w fun e w' => e = .returned (.bool (withinB most l)) ∧ w' = w := by
  have hc : Hid (∀ (i : Nat) (x : Int), l[i]? = some x → w.cell? ⟨b, i, none⟩ = some (.int .i64 x)) := fun i x h => by
    rw [hb.cell i]
    simp [h]
  obtain ⟨L, hL⟩ : ∃ L, l.length = L := ⟨_, rfl⟩
  have hLH := Lib.hid hL
  rw [hL] at hl ⊢
  clear hb hL
  go_enter Tryd.func62, Tryd.ntmps62
  go_wp2_with fail
  go_loopw [9] (fun v wr => ∃ i : Nat, v = .int .i64 i ∧ i ≤ L ∧ Hid (withinB most l = withinB most (l.drop i)) ∧ Hid (wr = w)) (fun v _ => L - (intOf v).toNat)
  case atStart => exact ⟨0, rfl, Nat.zero_le _, rfl, rfl⟩
  case round =>
    obtain ⟨i, rfl, hi, hE, hw⟩ := hrel
    by_cases hlt : i < L
    · have d1 : decide (i < L) = true := decide_eq_true hlt
      have d2 : decide ((i : Int) < (L : Int)) = true := decide_eq_true (by omega)
      obtain ⟨x, hx⟩ : ∃ x, l[i]? = some x := ⟨_, List.getElem?_eq_getElem (by rw [hLH.out]; exact hlt)⟩
      have cx := hc.out i x hx
      rw [← hw.out] at cx
      have hstep : Hid (withinB most (l.drop i) = ((!(decide (x < 0)) && !(decide (most < x))) && withinB most (l.drop (i + 1)))) := by
        obtain ⟨h1, h2⟩ := List.getElem?_eq_some_iff.1 hx
        unfold Hid withinB
        rw [List.drop_eq_getElem_cons h1, h2, List.all_cons]
      have q0 : (0 : Int) ≤ (i : Int) := by omega
      have q1 : (i : Int) < (L : Int) := by omega
      have hltH := Lib.hid hlt
      clear hx hlt
      cases h1 : decide (x < 0)
      case true =>
        rw [h1] at hstep
        have n1 : x < 0 := of_decide_eq_true h1
        go_wp2_with fail
        go_ret
        exact ⟨by rw [hE.out, hstep.out]; rfl, hw.out⟩
      case false =>
        have n1 : ¬ x < 0 := of_decide_eq_false h1
        cases h2 : decide (most < x)
        case true =>
          rw [h1, h2] at hstep
          have n2 : most < x := of_decide_eq_true h2
          go_wp2_with fail
          go_ret
          exact ⟨by rw [hE.out, hstep.out]; rfl, hw.out⟩
        case false =>
          have n2 : ¬ most < x := of_decide_eq_false h2
          rw [h1, h2] at hstep
          go_wp2_with fail
          go_roundw
          case rel => exact ⟨i + 1, by go_num, hltH.out, hE.out.trans (by rw [hstep.out]; simp), hw.out⟩
          case measure => have := hltH.out; simp [intOf]; omega
    · have d1 : decide (i < L) = false := decide_eq_false hlt
      have d2 : decide ((i : Int) < (L : Int)) = false := decide_eq_false (by omega)
      have hall : Hid (withinB most l = true) := hE.out.trans (by rw [List.drop_eq_nil_of_le (by rw [hLH.out]; omega)]; rfl)
      clear hlt
      go_wp2_with fail
      go_ret
      exact ⟨by rw [hall.out]; rfl, hw.out⟩
/-- A builder that holds bytes. -/
def BIs (w : World) (B b : Nat) (l : List UInt8) : Prop := Lib.IsBuilder 84 5 B b (Lib.byteCells l) w
theorem strCells_eq (s : ByteArray) : Lib.strCells s = Lib.byteCells s.data.toList := by
  rfl
theorem byteCells_app (l m : List UInt8) : Lib.byteCells (l ++ m) = Lib.byteCells l ++ Lib.byteCells m := by
  simp [Lib.byteCells]
theorem byteCells_len (l : List UInt8) : (Lib.byteCells l).length = l.length := by
  simp [Lib.byteCells]
theorem write_any {B b : Nat} {l : List UInt8} {s : ByteArray} {w : World} (h : BIs w B b l) (hlen : l.length + s.size ≤ 140737488355328) (hBw : B ≤ w.heap.size) :
    Calls Tryd.prog 38 #[.pointer (some ⟨b, 0, none⟩), .string s] w fun e w' => e = .returned (.tuple #[.int .i64 s.size, .nilIface]) ∧ BIs w' B b (l ++ s.data.toList) ∧ Below B w w' ∧ Kept8 w w' b := by
  refine (writeS_any B b (Lib.byteCells l) s w h (by rw [byteCells_len]; exact hlen) hBw).mono ?_
  rintro e w' ⟨rfl, h1, h2, h3⟩
  refine ⟨rfl, ?_, h2, h3⟩
  unfold BIs
  rw [byteCells_app, ← strCells_eq]
  exact .inr h1
end Go.Proofs.YtemhiiignamkjaaDoor
namespace Go.Proofs.YtemhiiignamkjaaDoor
open Go.RowKit LexP ParP
attribute [local go_sem] Oper.semAt_some

theorem below_grow (w : World) (k : Nat) (os : Array Obj) : Below w.heap.size w (Sort.grow (w.drewN k) os) := by
  refine ⟨rfl, rfl, rfl, ?_, fun j hj => ?_⟩
  · show w.heap.size ≤ (w.heap ++ os).size
    rw [Array.size_append]
    omega
  · show (w.heap ++ os)[j]? = w.heap[j]?
    rw [Array.getElem?_append_left hj]
theorem kept_below {w w' : World} (h : Below w.heap.size w w') (b : Nat) : Kept8 w w' b := fun _ _ _ _ _ hb => hb.below h hb.lt
theorem BIs.below {w w' : World} {B b : Nat} {l : List UInt8} (h : BIs w B b l) (hB : Below w.heap.size w w') : BIs w' B b l := by
  rcases h with h | h
  · left
    obtain ⟨h1, v, h2, h3, h4⟩ := h
    have hlt := (Array.getElem?_eq_some_iff.1 h2).1
    exact ⟨h1, v, (hB.block _ hlt).trans h2, ownsRow_below h3 hB (Nat.le_refl _), h4⟩
  · right
    obtain ⟨h1, v, h2, h3, h4⟩ := h
    have hlt := (Array.getElem?_eq_some_iff.1 h2).1
    exact ⟨h1, v, (hB.block _ hlt).trans h2, ownsRow_below h3 hB (Nat.le_refl _), h4⟩
theorem BIs.lt {w : World} {B b : Nat} {l : List UInt8} (h : BIs w B b l) : b < w.heap.size ∧ B ≤ b := by
  rcases h with h | h
  · obtain ⟨h1, v, h2, h3, h4⟩ := h
    exact ⟨(Array.getElem?_eq_some_iff.1 h2).1, h1⟩
  · obtain ⟨h1, v, h2, h3, h4⟩ := h
    exact ⟨(Array.getElem?_eq_some_iff.1 h2).1, h1⟩
theorem BIs.ne {w : World} {B b : Nat} {l : List UInt8} (h : BIs w B b l) {g : Nat} {t : TypeId} {cs : Array Value} (hg : Blk w g t cs) (ht : t ≠ 84) : g ≠ b := by
  intro e
  subst e
  rcases h with h | h
  · obtain ⟨h1, v, h2, h3, h4⟩ := h
    have := hg.symm.trans h2
    simp at this
    exact ht this.2
  · obtain ⟨h1, v, h2, h3, h4⟩ := h
    have := hg.symm.trans h2
    simp at this
    exact ht this.2
def cat (xs : List ByteArray) : List UInt8 := xs.flatMap fun s => s.data.toList
set_option maxRecDepth 100000 in
set_option maxHeartbeats 12800000 in
theorem put_any (w : World) (B b sb c : Nat) (l : List UInt8) (xs : List ByteArray) (hb : BIs w B b l) (hs : Blk w sb 9 (xs.map Value.string).toArray) (hlen : l.length + (cat xs).length ≤ 1000000000) (hx : xs.length ≤ 1000) :
    Calls Tryd.prog 37 #[.slice (some ⟨sb, 0, none⟩) xs.length c, .pointer (some ⟨b, 0, none⟩)] w fun e w' => e = .returned (.tuple #[]) ∧ BIs w' B b (l ++ cat xs) ∧ Below B w w' ∧ Kept8 w w' b := by
  have HB := Lib.hid hb
  have HS := Lib.hid hs
  have hsb : Hid (sb ≠ b) := hb.ne hs (by decide)
  have hlenH := Lib.hid hlen
  obtain ⟨L, hL⟩ : ∃ L, xs.length = L := ⟨_, rfl⟩
  have hLH := Lib.hid hL
  rw [hL] at hx ⊢
  clear hb hs hL hlen
  go_enter Tryd.func37, Tryd.ntmps37
  go_wp2_with fail
  go_loopw [7] (fun v wr => ∃ i : Nat, v = .int .i64 i ∧ i ≤ L ∧ Hid (BIs wr B b (l ++ cat (xs.take i))) ∧ Hid (Blk wr sb 9 (xs.map Value.string).toArray) ∧ Hid (Below B w wr) ∧ Hid (Kept8 w wr b)) (fun v _ => L - (intOf v).toNat)
  case atStart => exact ⟨0, rfl, Nat.zero_le _, by unfold Hid; simp [cat]; exact HB.out, HS.out, Below.refl _ _, Kept8.refl _ _⟩
  case round =>
    clear HB HS
    obtain ⟨i, rfl, hi, HB, HS, HL, HK⟩ := hrel
    by_cases hlt : i < L
    · have d1 : decide (i < L) = true := decide_eq_true hlt
      have d2 : decide ((i : Int) < (L : Int)) = true := decide_eq_true (by omega)
      obtain ⟨x, hx2⟩ : ∃ x, xs[i]? = some x := ⟨_, List.getElem?_eq_getElem (by rw [hLH.out]; exact hlt)⟩
      have cx : wr.cell? ⟨sb, i, none⟩ = some (.string x) := by
        rw [HS.out.cell i]
        simp [hx2]
      have hsn : Hid (cat (xs.take (i + 1)) = cat (xs.take i) ++ x.data.toList) := by
        unfold Hid cat
        rw [take_snoc hx2, List.flatMap_append]
        simp
      have hle : Hid ((l ++ cat (xs.take i)).length + x.size ≤ 140737488355328) := by
        have h1 : (cat (xs.take (i + 1))).length ≤ (cat xs).length := by
          unfold cat
          conv => rhs; rw [← List.take_append_drop (i + 1) xs]
          rw [List.flatMap_append, List.length_append]
          omega
        rw [hsn.out, List.length_append] at h1
        have h2 := hlenH.out
        have h3 : x.data.toList.length = x.size := Array.length_toList
        unfold Hid
        rw [List.length_append]
        omega
      have hwr := Lib.hid (write_any HB.out hle.out (Nat.le_trans HB.out.lt.2 (Nat.le_of_lt HB.out.lt.1)))
      have q0 : (0 : Int) ≤ (i : Int) := by omega
      have q1 : (i : Int) < (L : Int) := by omega
      have hltH := Lib.hid hlt
      clear hx2 hlt
      go_wp2_with (go_at_call 38; refine hwr.out.mono ?_; rintro e w1 ⟨rfl, h1, h2, h3⟩; have HB1 := Lib.hid h1; have HS1 := Lib.hid (h3 _ _ _ hsb.out (by decide) HS.out); have HL1 := Lib.hid (HL.out.trans h2); have HK1 := Lib.hid (HK.out.trans h3); clear h1 h2 h3)
      go_roundw
      case rel => exact ⟨i + 1, by go_num, hltH.out, by unfold Hid; rw [hsn.out, ← List.append_assoc]; exact HB1.out, HS1.out, HL1.out, HK1.out⟩
      case measure => have := hltH.out; simp [intOf]; omega
    · have d1 : decide (i < L) = false := decide_eq_false hlt
      have d2 : decide ((i : Int) < (L : Int)) = false := decide_eq_false (by omega)
      have hall : Hid (xs.take i = xs) := by unfold Hid; rw [List.take_of_length_le (by rw [hLH.out]; omega)]
      clear hlt
      go_wp2_with fail
      go_end0
      rw [hall.out] at HB
      exact ⟨by simp, HB.out, HL.out, HK.out⟩
/-- The powers of ten lie where the library lays them. -/
def PowAt (w : World) : Prop := Lib.TabBelow Tryd.prog w.heap.size w "internal/strconv.uint64pow10" .u64 Lib.pow10Tab
theorem PowAt.below {w w' : World} (h : PowAt w) (hb : Below w.heap.size w w') : PowAt w' := fun w2 h2 => h w2 (hb.trans (h2.mono hb.size))
theorem itoa_any (n : Int) (h0 : -9223372036854775808 ≤ n) (h1 : n ≤ 9223372036854775807) (w : World) (hp : PowAt w) :
    Calls Tryd.prog 40 #[.int .i64 n] w fun e w' => e = .returned (.string ⟨(Lib.itoa n).toArray⟩) ∧ Below w.heap.size w w' := by
  refine (Tryd.strconv_Itoa n h0 h1 w hp.here).mono ?_
  rintro e w' ⟨rfl, k, os, rfl⟩
  exact ⟨rfl, below_grow w k os⟩
end Go.Proofs.YtemhiiignamkjaaDoor
namespace Go.Proofs.YtemhiiignamkjaaDoor
open Go.RowKit LexP ParP
attribute [local go_sem] Oper.semAt_some

set_option maxRecDepth 100000 in
set_option maxHeartbeats 12800000 in
theorem numP_any (w : World) (B b q : Nat) (l : List UInt8) (word : ByteArray) (n : Int) (h0 : -9223372036854775808 ≤ n) (h1 : n ≤ 9223372036854775807) (hb : BIs w B b l)
    (hq : Blk w q 89 #[.func (.func 37) #[] #[.pointer (some ⟨b, 0, none⟩)]]) (hlen : l.length + word.size + (Lib.itoa n).length ≤ 1000000000) (hp : PowAt w) :
    Calls Tryd.prog 39 #[.string word, .int .i64 n, .pointer (some ⟨q, 0, none⟩)] w fun e w' => e = .returned (.tuple #[]) ∧ BIs w' B b (l ++ word.data.toList ++ Lib.itoa n) ∧ Below B w w' ∧ Kept8 w w' b := by
  have HB := Lib.hid hb
  have HQ := Lib.hid hq
  have hlenH := Lib.hid hlen
  have hIt := Lib.hid (itoa_any n h0 h1 w.drew (hp.below (Below.refl _ _).drew))
  have cq : w.cell? ⟨q, 0, none⟩ = some (.func (.func 37) #[] #[.pointer (some ⟨b, 0, none⟩)]) := hq.cell 0
  have hqlt : Hid (q < w.heap.size) := (Array.getElem?_eq_some_iff.1 hq).1
  have hqb : Hid (q ≠ b) := hb.ne hq (by decide)
  have hBle : Hid (B ≤ w.heap.size) := Nat.le_trans HB.out.lt.2 (Nat.le_of_lt HB.out.lt.1)
  have hcat : Hid (cat [word, ⟨(Lib.itoa n).toArray⟩] = word.data.toList ++ Lib.itoa n) := by unfold Hid cat; simp
  have hle : Hid (l.length + (cat [word, ⟨(Lib.itoa n).toArray⟩]).length ≤ 1000000000) := by
    have h1 : word.data.toList.length = word.size := Array.length_toList
    unfold Hid
    rw [hcat.out, List.length_append, h1]
    omega
  clear hb hq hlen
  go_enter Tryd.func39, Tryd.ntmps39
  go_wp2_with fail
  refine wp_region_held_drew (S := (fun w' => w'.cell? ⟨q, 0, none⟩ = some (.func (.func 37) #[] #[.pointer (some ⟨b, 0, none⟩)]))) (by kernel_rfl) cq (fun hHeld => ?_)
  refine' wpAnyH_take (i := 0) (v := ?v0) rfl (by kernel_rfl) (by kernel_rfl) (by kernel_rfl) (fun _ _ _ h => h) (Or.inl ⟨by rfl, ?hy0⟩) hHeld ?rest0
  case hy0 =>
    intro w hSw
    try dsimp only at hSw
    go_simp
    all_goals with_reducible rfl
  try simp only [Act.put, List.setIfInBounds_toArray, List.set_cons_zero, List.set_cons_succ, List.getElem_toArray, List.getElem_cons_zero]
  refine' wpAnyH_take (i := 1) (v := ?v1) rfl (by kernel_rfl) (by kernel_rfl) (by kernel_rfl) (fun _ _ _ h => h) (Or.inl ⟨by rfl, ?hy1⟩) hHeld ?rest1
  case hy1 =>
    intro w hSw
    try dsimp only at hSw
    go_simp
    all_goals with_reducible rfl
  try simp only [Act.put, List.setIfInBounds_toArray, List.set_cons_zero, List.set_cons_succ, List.getElem_toArray, List.getElem_cons_zero, List.getElem_cons_succ]
  refine' wpAnyH_take (i := 2) (v := ?v2) rfl (by kernel_rfl) (by kernel_rfl) (by kernel_rfl) (fun _ _ _ h => h) (Or.inl ⟨by rfl, ?hy2⟩) hHeld ?rest2
  case hy2 =>
    intro w hSw
    try dsimp only at hSw
    go_simp
    all_goals with_reducible rfl
  try simp only [Act.put, List.setIfInBounds_toArray, List.set_cons_zero, List.set_cons_succ, List.getElem_toArray, List.getElem_cons_zero, List.getElem_cons_succ]
  refine wpAnyH_ready (rs := [3]) (by kernel_rfl) (by simp) ?_
  refine AllReadyH.cons rfl (fun K hK => ?_) AllReadyH.nil
  go_simp
  go_at_call 40
  refine hIt.out.mono ?_
  rintro e w1 ⟨rfl, hB1⟩
  have HB1 : Hid (Below w.heap.size w w1) := ((Below.refl _ _).drew).trans hB1
  clear hB1
  refine hK.out _ _ ?_ (fun hHeld2 => ?_)
  · exact (HQ.out.below HB1.out hqlt.out).cell 0
  clear hK K hHeld
  have hHeld := hHeld2
  clear hHeld2
  try simp only [Act.put, List.setIfInBounds_toArray, List.set_cons_zero, List.set_cons_succ, List.getElem_toArray, List.getElem_cons_zero, List.getElem_cons_succ]
  refine wpAnyH_ready (rs := [4]) (by kernel_rfl) (by simp) ?_
  refine AllReadyH.cons rfl (fun K hK => ?_) AllReadyH.nil
  go_simp
  refine world_is (P := fun W => K _ W) (fun W2 hW2 => ?_)
  have HB2 : Hid (Below w.heap.size w W2) := by subst hW2; exact HB1.out.alloc HB1.out.size _
  have HX2 : Hid (Blk W2 w1.heap.size 9 #[.string word, .string ⟨(Lib.itoa n).toArray⟩]) := by subst hW2; exact Blk.new _ _ _
  have hC2 : Hid (W2.cell? ⟨q, 0, none⟩ = some (.func (.func 37) #[] #[.pointer (some ⟨b, 0, none⟩)])) := (HQ.out.below HB2.out hqlt.out).cell 0
  clear hW2
  refine hK.out _ _ ?_ (fun hHeld2 => ?_)
  · exact hC2.out
  clear hK K hHeld
  have hHeld := hHeld2
  clear hHeld2
  try simp only [Act.put, List.setIfInBounds_toArray, List.set_cons_zero, List.set_cons_succ, List.getElem_toArray, List.getElem_cons_zero, List.getElem_cons_succ]
  refine wpAnyH_ready (rs := [5]) (by kernel_rfl) (by simp) ?_
  refine AllReadyH.cons rfl (fun K hK => ?_) AllReadyH.nil
  go_simp
  go_at_call 37
  refine (put_any W2 B b w1.heap.size 2 l [word, ⟨(Lib.itoa n).toArray⟩] (HB.out.below HB2.out) HX2.out hle.out (by simp)).mono ?_
  rintro e w3 ⟨rfl, h1, h2, h3⟩
  have HE := Lib.hid h1
  have HB3 : Hid (Below B w w3) := (HB2.out.mono hBle.out).trans h2
  have HK3 : Hid (Kept8 w w3 b) := (kept_below HB2.out b).trans h3
  clear h1 h2 h3
  rw [hcat.out, ← List.append_assoc] at HE
  go_wp2_with fail
  refine hK.out _ _ ?_ (fun hHeld2 => ?_)
  · exact (HK3.out _ _ _ hqb.out (by decide) HQ.out).cell 0
  clear hK K hHeld
  have hHeld := hHeld2
  clear hHeld2
  try simp only [Act.put, List.setIfInBounds_toArray, List.set_cons_zero, List.set_cons_succ, List.getElem_toArray, List.getElem_cons_zero, List.getElem_cons_succ]
  refine wpAnyH_done (by kernel_rfl) ?_ _
  clear hHeld
  go_wp2_with fail
  go_end0
  exact ⟨by simp, HE.out, HB3.out, HK3.out⟩
end Go.Proofs.YtemhiiignamkjaaDoor
