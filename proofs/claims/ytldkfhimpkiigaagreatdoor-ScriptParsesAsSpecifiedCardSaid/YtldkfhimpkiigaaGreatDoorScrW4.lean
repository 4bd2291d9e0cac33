/-
  Layer 46 (script): scripts in memory; isStep.
-/
import Derived.Test.YtldkfhimpkiigaaGreatDoorScrW3
namespace Go.Proofs.YtldkfhimpkiigaaGreatDoor
open Go.RowKit ScrP
attribute [local go_sem] Oper.semAt_some

/-- The cells of steps, their rows of arguments given. -/
def stepsC (xs : List Stp) (vs : List Value) : List Value := (List.zip xs vs).flatMap fun p => [.int .i64 p.1.kind, p.2, .string p.1.text]
theorem stepsC_get : ∀ (xs : List Stp) (vs : List Value) (i : Nat) (x : Stp) (v : Value), xs[i]? = some x → vs[i]? = some v →
    (stepsC xs vs)[i * 3]? = some (.int .i64 x.kind) ∧ (stepsC xs vs)[i * 3 + 1]? = some v ∧ (stepsC xs vs)[i * 3 + 2]? = some (.string x.text)
  | [], _, _, _, _, h, _ => by cases h
  | _ :: _, [], _, _, _, _, h => by cases h
  | a :: xs, u :: vs, i, x, v, hx, hv => by
    have e : stepsC (a :: xs) (u :: vs) = [.int .i64 a.kind, u, .string a.text] ++ stepsC xs vs := rfl
    cases i with
    | zero => cases hx; cases hv; exact ⟨rfl, rfl, rfl⟩
    | succ i =>
      obtain ⟨h0, h1, h2⟩ := stepsC_get xs vs i x v hx hv
      rw [e, show (i + 1) * 3 = (i * 3) + 3 by omega, show i * 3 + 3 + 1 = (i * 3 + 1) + 3 by omega, show i * 3 + 3 + 2 = (i * 3 + 2) + 3 by omega]
      exact ⟨h0, h1, h2⟩
/-- A row of steps, wherever it lies. -/
def StepsAt (w : World) (B : Nat) (v : Value) (xs : List Stp) : Prop :=
  ∃ vs, vs.length = xs.length ∧ RowAt w B v xs.length (stepsC xs vs) ∧ ∀ (i : Nat) (x : Stp) (u : Value), xs[i]? = some x → vs[i]? = some u → RowAt w B u x.args.length (intsC x.args)
theorem StepsAt.below {w w' : World} {B : Nat} {v : Value} {xs : List Stp} (h : StepsAt w B v xs) (hb : Below B w w') : StepsAt w' B v xs := by
  obtain ⟨vs, h1, h2, h3⟩ := h
  exact ⟨vs, h1, h2.below hb, fun i x u hx hu => (h3 i x u hx hu).below hb⟩
theorem StepsAt.mono {w : World} {B B' : Nat} {v : Value} {xs : List Stp} (h : StepsAt w B v xs) (hb : B ≤ B') : StepsAt w B' v xs := by
  obtain ⟨vs, h1, h2, h3⟩ := h
  exact ⟨vs, h1, h2.mono hb, fun i x u hx hu => (h3 i x u hx hu).mono hb⟩
/-- A script, wherever it lies. -/
def ScrAt (w : World) (B : Nat) (v : Value) (s : Scr) : Prop := ∃ vt vs, v = .agg #[vt, vs] ∧ RowAt w B vt s.texts.length (strsC s.texts) ∧ StepsAt w B vs s.steps
theorem ScrAt.below {w w' : World} {B : Nat} {v : Value} {s : Scr} (h : ScrAt w B v s) (hb : Below B w w') : ScrAt w' B v s := by
  obtain ⟨vt, vs, h1, h2, h3⟩ := h
  exact ⟨vt, vs, h1, h2.below hb, h3.below hb⟩
theorem ScrAt.mono {w : World} {B B' : Nat} {v : Value} {s : Scr} (h : ScrAt w B v s) (hb : B ≤ B') : ScrAt w B' v s := by
  obtain ⟨vt, vs, h1, h2, h3⟩ := h
  exact ⟨vt, vs, h1, h2.mono hb, h3.mono hb⟩
/-- What the size of memory says of a script. -/
structure StpIn (x : Stp) : Prop where
  kind : InI x.kind
  args : ∀ a ∈ x.args, InI a
  nargs : x.args.length ≤ 17592186044416
  text : x.text.size ≤ 140737488355328
structure ScrIn (s : Scr) : Prop where
  nt : s.texts.length ≤ 17592186044416
  ns : s.steps.length ≤ 17592186044416
  txt : ∀ t ∈ s.texts, t.size ≤ 140737488355328
  stp : ∀ x ∈ s.steps, StpIn x
theorem stepOk_eq {x : Stp} {r : KRow} (hk : isKindB x.kind = true) (hr : rowOf x.kind = r) : stepOk x =
    (decide (r.least ≤ x.args.length) && (decide (x.args.length ≤ r.most) && ((r.text || decide (x.text.size = 0)) && (x.args.all argOk && decide ((dataR x.text).err = 0))))) := by
  unfold stepOk
  rw [hk, hr]
  rfl
theorem krow_most {r : KRow} (h : r ∈ krows) : r.most ≤ 18 ∧ r.least ≤ 18 := by
  have hall : (krows.all fun r => decide (r.most ≤ 18) && decide (r.least ≤ 18)) = true := by kernel_rfl
  have := List.all_eq_true.1 hall r h
  rwa [Bool.and_eq_true, decide_eq_true_iff, decide_eq_true_iff] at this
theorem size0_iff (t : ByteArray) : (t.toList == []) = decide (t.size = 0) := by
  rw [Bool.eq_iff_iff, beq_iff_eq, decide_eq_true_iff, ByteArray.toList_eq]
  constructor
  · intro h
    show t.data.size = 0
    rw [← Array.length_toList, h]
    rfl
  · intro h
    exact List.eq_nil_of_length_eq_zero (by rw [Array.length_toList]; exact h)
theorem all_not_any {α : Type} (p : α → Bool) (l : List α) : (l.any fun a => !p a) = !(l.all p) := by
  induction l with
  | nil => rfl
  | cons a l ih =>
    rw [List.any_cons, List.all_cons, ih]
    cases p a <;> rfl
set_option maxRecDepth 100000 in
set_option maxHeartbeats 4000000 in
theorem isStep_any (x : Stp) (va : Value) (B : Nat) (w : World) (hr : RowAt w B va x.args.length (intsC x.args)) (hB : B ≤ w.heap.size) (hn : x.args.length ≤ 17592186044416) (ht : x.text.size ≤ 140737488355328) (hK : KTab w) (hL : LibAt w) :
    Calls Tryz.prog 41 #[.agg #[.int .i64 x.kind, va, .string x.text]] w fun e w' => e = .returned (.bool (stepOk x)) ∧ Below w.heap.size w w' := by
  obtain ⟨A, c, rfl, hA⟩ := id hr
  clear hA
  have HR := Lib.hid hr
  have HK := Lib.hid hK
  have HL := Lib.hid hL
  have HT := Lib.hid ht
  have hBH := Lib.hid hB
  obtain ⟨n, hnn⟩ : ∃ n, x.args.length = n := ⟨_, rfl⟩
  have hnH := Lib.hid hnn
  rw [hnn] at hn ⊢
  obtain ⟨tx, htx⟩ : ∃ t, x.text = t := ⟨_, rfl⟩
  have htH := Lib.hid htx
  rw [htx] at HT ⊢
  obtain ⟨z, hz⟩ : ∃ z, x.kind = z := ⟨_, rfl⟩
  have hzH := Lib.hid hz
  rw [hz]
  clear hr hK hL ht hB hnn htx hz
  go_enter Tryz.func41, Tryz.ntmps41
  go_upto_region 1 with fail
  refine world_is (P := fun W => Code.wp _ _ _ _ W) (fun W1 hW1 => ?_)
  have B1 : Hid (Below w.heap.size w W1) := by unfold Hid; rw [← hW1]; exact (Below.refl _ _).alloc (Nat.le_refl _) _
  have X1 : Hid (Blk W1 w.heap.size 53 #[.int .i64 z, .slice A n c, .string tx]) := by unfold Hid; rw [← hW1]; exact Blk.new _ _ _
  obtain ⟨g, hg⟩ : ∃ g, w.heap.size = g := ⟨_, rfl⟩
  rw [hg] at X1 ⊢
  clear hW1 hg
  have x0 := X1.out.cell 0
  have x2 := X1.out.cell 2
  obtain ⟨kb, hkb⟩ : ∃ b, isKindB z = b := ⟨_, rfl⟩
  have HC := Lib.hid (isKind_any z W1)
  rw [hkb] at HC
  go_wp2_with fail
  refine HC.out.mono ?_
  rintro e w2 ⟨rfl, hww⟩
  rw [hww]
  clear hww w2 HC
  cases kb
  case false =>
    have hRes : Hid (stepOk x = false) := by unfold Hid stepOk; rw [hzH.out, hkb, Bool.false_and]
    clear hkb
    go_wp2_with fail
    go_ret
    exact ⟨by rw [hRes.out]; rfl, B1.out⟩
  case true =>
  have h12 : 1 ≤ z ∧ z < 24 := by unfold isKindB at hkb; simpa using hkb
  obtain ⟨k, rfl⟩ : ∃ k : Nat, z = (k : Int) := ⟨z.toNat, by omega⟩
  obtain ⟨r, hrr⟩ : ∃ r, rowOf (k : Int) = r := ⟨_, rfl⟩
  have hka := krow_at h12.1 h12.2
  rw [hrr] at hka
  obtain ⟨k0, k1, k2, k3⟩ := (HK.out.below B1.out).row k r hka
  have hm := krow_most (List.mem_iff_getElem?.2 ⟨k, hka⟩)
  have hEq := stepOk_eq (x := x) (r := r) (by rw [hzH.out]; exact hkb) (by rw [hzH.out]; exact hrr)
  rw [hnH.out, htH.out] at hEq
  have hEqH := Lib.hid hEq
  have q0 : (0 : Int) ≤ (k : Int) := by omega
  have q1 : (k : Int) < 24 := h12.2
  have hmH := Lib.hid hm
  clear hka hEq hkb h12 hrr hm
  go_upto_region 5 with fail
  refine world_is (P := fun W => Code.wp _ _ _ _ W) (fun W2 hW2 => ?_)
  have hB2 : Below W1.heap.size W1 W2 := by rw [← hW2]; exact (Below.refl _ _).alloc (Nat.le_refl _) _
  have X2 := Lib.hid (X1.out.below hB2 X1.out.lt)
  have B2 := Lib.hid (B1.out.trans (hB2.mono B1.out.size))
  have Y2 : Hid (Blk W2 W1.heap.size 58 #[.string r.name, .int .i64 (r.least : Int), .int .i64 (r.most : Int), .bool r.text]) := by unfold Hid; rw [← hW2]; exact Blk.new _ _ _
  obtain ⟨y, hy⟩ : ∃ g, W1.heap.size = g := ⟨_, rfl⟩
  rw [hy] at Y2 ⊢
  clear hW2 hy hB2 X1 B1 x0 x2 k0 k1 k2 k3 q0 q1
  have x2 := X2.out.cell 2
  obtain ⟨D, hD⟩ : ∃ D, dataR tx = D := ⟨_, rfl⟩
  have HD := Lib.hid (Data_any tx W2 HT.out (HL.out.below B2.out))
  unfold DataPost at HD
  rw [hD] at HD hEqH
  clear hD
  go_wp2_with fail
  refine HD.out.mono ?_
  rintro e w3 ⟨rfl, hB3⟩
  have X3 := Lib.hid (X2.out.below hB3 X2.out.lt)
  have Y3 := Lib.hid (Y2.out.below hB3 Y2.out.lt)
  have B3 := Lib.hid (B2.out.trans (hB3.mono B2.out.size))
  have x1 := X3.out.cell 1
  have x2' := X3.out.cell 2
  have y1 := Y3.out.cell 1
  have y2 := Y3.out.cell 2
  have y3 := Y3.out.cell 3
  clear hB3 X2 Y2 B2 x2 HD
  obtain ⟨le, hle⟩ : ∃ k, r.least = k := ⟨_, rfl⟩
  obtain ⟨mo, hmo⟩ : ∃ k, r.most = k := ⟨_, rfl⟩
  obtain ⟨tb, htb⟩ : ∃ k, r.text = k := ⟨_, rfl⟩
  rw [hle] at y1 hEqH
  rw [hmo] at y2 hEqH
  rw [htb] at y3 hEqH
  have hmo18 : mo ≤ 18 := by have := hmH.out.1; omega
  clear hle hmo htb hmH X3 Y3
  by_cases h1 : le ≤ n
  case neg =>
    have d1 : decide (le ≤ n) = false := decide_eq_false h1
    have d2 : decide ((le : Int) ≤ (n : Int)) = false := decide_eq_false (by omega)
    have hRes : Hid (stepOk x = false) := by unfold Hid; rw [hEqH.out, d1]; rfl
    clear h1 hmo18
    go_wp2_with fail
    go_ret
    exact ⟨by rw [hRes.out]; rfl, B3.out⟩
  case pos =>
  have d1 : decide (le ≤ n) = true := decide_eq_true h1
  have d2 : decide ((le : Int) ≤ (n : Int)) = true := decide_eq_true (by omega)
  by_cases h2 : n ≤ mo
  case neg =>
    have d3 : decide (n ≤ mo) = false := decide_eq_false h2
    have d4 : decide ((n : Int) ≤ (mo : Int)) = false := decide_eq_false (by omega)
    have hRes : Hid (stepOk x = false) := by unfold Hid; rw [hEqH.out, d1, d3]; rfl
    clear h1 h2 hmo18
    go_wp2_with fail
    go_ret
    exact ⟨by rw [hRes.out]; rfl, B3.out⟩
  case pos =>
  have d3 : decide (n ≤ mo) = true := decide_eq_true h2
  have d4 : decide ((n : Int) ≤ (mo : Int)) = true := decide_eq_true (by omega)
  have hn18 : n ≤ 18 := by omega
  have HI := Lib.hid (HasInt_any x.args (.slice A n c) B w3 (by have h := HR.out.below (B3.out.mono hBH.out); rw [hnH.out] at h ⊢; exact h) (by rw [hnH.out]; omega))
  have hna := Lib.hid (all_not_any argOk x.args)
  obtain ⟨al, hal⟩ : ∃ b, x.args.all argOk = b := ⟨_, rfl⟩
  rw [hal] at hna hEqH
  rw [hna.out] at HI
  clear h1 h2 hmo18 hn18 hal hna
  have key : ∀ (sz : Bool), (tb || decide (tx.size = 0)) = sz → (sz = false → stepOk x = false) ∧ (sz = true → stepOk x = (al && decide (D.err = 0))) := by
    intro sz hsz
    rw [hEqH.out, d1, d3, hsz]
    refine ⟨fun e => by rw [e]; rfl, fun e => by rw [e]; rfl⟩
  have m0 := size0_iff tx
  obtain ⟨s0, hs0⟩ : ∃ b, decide (tx.size = 0) = b := ⟨_, rfl⟩
  rw [hs0] at key m0
  have keyH := Lib.hid key
  clear key hs0 hEqH
  have m1 : Hid (s0 = true → tx.toList = []) := fun e => by rw [e] at m0; exact beq_iff_eq.1 m0
  have m2 : Hid (s0 = false → ¬ tx.toList = []) := fun e => by rw [e] at m0; exact beq_eq_false_iff_ne.1 m0
  have fin : Hid (∀ (hT : (tb || s0) = true), stepOk x = (al && decide (D.err = 0))) := fun hT => (keyH.out true hT).2 rfl
  have er : ∀ (b : Bool), decide (D.err = 0) = b → (D.err == 0) = b := fun b h => by
    cases b
    · exact beq_eq_false_iff_ne.2 (of_decide_eq_false h)
    · exact beq_iff_eq.2 (of_decide_eq_true h)
  obtain ⟨eb, heb⟩ : ∃ b, decide (D.err = 0) = b := ⟨_, rfl⟩
  have e1 := er eb heb
  rw [heb] at fin
  clear heb er
  cases tb
  case true =>
    clear m0 m1 m2
    go_wp2_with fail
    refine HI.out.mono ?_
    rintro e w4 ⟨rfl, hww⟩
    rw [hww]
    clear hww w4 HI
    have hF := Lib.hid (fin.out rfl)
    clear fin keyH
    cases al
    case false =>
      go_wp2_with fail
      go_ret
      exact ⟨by rw [hF.out]; rfl, B3.out⟩
    case true =>
      go_wp2_with fail
      go_ret
      exact ⟨by rw [hF.out]; rfl, B3.out⟩
  case false =>
    cases s0
    case false =>
      have m3 := m2.out rfl
      have hRes := Lib.hid ((keyH.out false rfl).1 rfl)
      clear m1 m2 fin keyH
      go_wp2_with fail
      go_ret
      exact ⟨by rw [hRes.out]; rfl, B3.out⟩
    case true =>
      have m3 := m1.out rfl
      clear m1 m2
      go_wp2_with fail
      refine HI.out.mono ?_
      rintro e w4 ⟨rfl, hww⟩
      rw [hww]
      clear hww w4 HI
      have hF := Lib.hid (fin.out rfl)
      clear fin keyH
      cases al
      case false =>
        go_wp2_with fail
        go_ret
        exact ⟨by rw [hF.out]; rfl, B3.out⟩
      case true =>
        go_wp2_with fail
        go_ret
        exact ⟨by rw [hF.out]; rfl, B3.out⟩
end Go.Proofs.YtldkfhimpkiigaaGreatDoor
