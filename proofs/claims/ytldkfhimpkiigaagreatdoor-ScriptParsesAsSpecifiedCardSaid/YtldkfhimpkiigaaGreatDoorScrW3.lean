/-
  Layer 46 (script): Data; numbers in rows; isStep.
-/
import Derived.Test.YtldkfhimpkiigaaGreatDoorScrW2
import Derived.OwnWalk
namespace Go.Proofs.YtldkfhimpkiigaaGreatDoor
open Go.RowKit ScrP
attribute [local go_sem] Oper.semAt_some

theorem str_index {s : ByteArray} {k : Nat} {c : UInt8} (h : s.data.toList[k]? = some c) (wx : World) : (Instr.index 9 (.string s) (.int .i64 (k : Int))).run Tryz.prog wx = .ok (.int .u8 (c.toNat : Int)) wx := by
  obtain ⟨h1, h2⟩ := List.getElem?_eq_some_iff.1 h
  have h3 : k < s.size := by rw [show s.size = s.data.toList.length from Array.length_toList.symm]; exact h1
  have h4 : s[k]'h3 = c := by
    show s.data[k] = c
    rw [← h2, Array.getElem_toList]
  have h5 : ¬ (s.size : Int) ≤ (k : Int) := by omega
  have h6 : ¬ (k : Int) < 0 := by omega
  have h7 : ¬ s.size ≤ k := by omega
  simp [Instr.index, run_underlying Tryz.underlying9, asIntOf, h3, h4]
theorem str_from (s : ByteArray) (K : Nat) (h : K ≤ s.size) (wx : World) : (Instr.slice 9 (.string s) (some (.int .i64 (K : Int))) none none).run Tryz.prog wx = .ok (.string (s.extract K s.size)) wx := by
  simp [Instr.slice, Instr.sliceBounds, Instr.sliceBound, asIntOf, run_underlying Tryz.underlying9]
  intro hc
  omega

theorem ext_tail {s : ByteArray} {c : UInt8} {r : List UInt8} (h : s.data.toList = c :: r) : s.extract 1 s.size = ⟨r.toArray⟩ ∧ s.size = r.length + 1 := by
  have hs : s.size = r.length + 1 := by rw [show s.size = s.data.toList.length from Array.length_toList.symm, h]; rfl
  refine ⟨?_, hs⟩
  refine ByteArray.ext (Array.ext' ?_)
  rw [ByteArray.data_extract, Array.toList_extract, List.extract_eq_take_drop, h, hs]
  simp
def DataPost (t : ByteArray) (w : World) (e : Ending) (w' : World) : Prop :=
  e = .returned (.tuple #[.string (dataR t).text, .int .i64 (dataR t).num, .int .i64 (dataR t).err]) ∧ Below w.heap.size w w'
theorem dataR_cons {t : ByteArray} {c : UInt8} {r : List UInt8} (h : t.data.toList = c :: r) : dataR t =
    if c = 61 ∧ t.size ≤ 4001 then ⟨⟨r.toArray⟩, -1, 0⟩ else if c = 64 ∧ decOk r = true ∧ decVal r ≤ 65535 then ⟨⟨#[]⟩, decVal r, 0⟩ else ⟨⟨#[]⟩, -1, 1⟩ := by
  unfold dataR
  rw [h]
set_option maxRecDepth 100000 in
set_option maxHeartbeats 4000000 in
theorem Data_any (t : ByteArray) (w : World) (hs : t.size ≤ 140737488355328) (hp : LibAt w) : Calls Tryz.prog 13 #[.string t] w (DataPost t w) := by
  cases hl : t.data.toList with
  | nil =>
    have e : t = ⟨#[]⟩ := ByteArray.ext (Array.ext' (by rw [hl]))
    subst e
    clear hs hp hl
    go_enter Tryz.func13, Tryz.ntmps13
    go_wp2_with fail
    go_ret3
    exact ⟨rfl, Below.refl _ _⟩
  | cons c r =>
    have hD := Lib.hid (dataR_cons hl)
    have hi := str_index (s := t) (k := 0) (c := c) (by rw [hl]; rfl)
    have hf := str_from t 1 (by rw [(ext_tail hl).2]; omega)
    obtain ⟨hx, hsz⟩ := ext_tail hl
    rw [hx] at hf
    have hne : ¬ t.toList = [] := by rw [ByteArray.toList_eq, hl]; simp
    have hne2 : (t.toList == []) = false := beq_eq_false_iff_ne.2 hne
    have hpH := Lib.hid hp
    have hr : (⟨r.toArray⟩ : ByteArray).data.toList = r := rfl
    have hrs : (⟨r.toArray⟩ : ByteArray).size ≤ 140737488355328 := by show r.toArray.size ≤ _; rw [List.size_toArray]; omega
    have HDec := Lib.hid (decimal_any ⟨r.toArray⟩ w hrs hp)
    unfold DecPost at HDec
    rw [hr] at HDec
    obtain ⟨u, hu⟩ : ∃ u, (⟨r.toArray⟩ : ByteArray) = u := ⟨_, rfl⟩
    rw [hu] at hf HDec hD
    have h0 : ((0 : Nat) : Int) = 0 := rfl
    have h1 : ((1 : Nat) : Int) = 1 := rfl
    rw [h0] at hi
    rw [h1] at hf
    have hszI : (t.size : Int) = (r.length : Int) + 1 := by omega
    clear hl hx hp hr hrs hu h0 h1 hs
    by_cases c61 : c = 61
    · have e1 : ((c.toNat : Int) == 61) = true := by rw [c61]; rfl
      by_cases h4 : t.size ≤ 4001
      · have e2 : decide (t.size ≤ 4001) = true := decide_eq_true h4
        have e3 : decide ((t.size : Int) ≤ 4001) = true := decide_eq_true (by omega)
        have hR : Hid (dataR t = ⟨u, -1, 0⟩) := by unfold Hid; rw [hD.out, if_pos ⟨c61, h4⟩]
        clear c61 h4 hszI hsz
        go_enter Tryz.func13, Tryz.ntmps13
        go_wp2_with fail
        go_ret3
        exact ⟨by rw [hR.out]; rfl, Below.refl _ _⟩
      · have e2 : decide (t.size ≤ 4001) = false := decide_eq_false h4
        have e3 : decide ((t.size : Int) ≤ 4001) = false := decide_eq_false (by omega)
        have e4 : ((c.toNat : Int) == 64) = false := by rw [c61]; rfl
        have hR : Hid (dataR t = ⟨⟨#[]⟩, -1, 1⟩) := by unfold Hid; rw [hD.out, if_neg (fun h => h4 h.2), if_neg (fun h => by rw [c61] at h; exact absurd h.1 (by decide))]
        clear c61 h4 hszI hsz
        go_enter Tryz.func13, Tryz.ntmps13
        go_wp2_with fail
        go_ret3
        exact ⟨by rw [hR.out]; rfl, Below.refl _ _⟩
    · have e1 : ((c.toNat : Int) == 61) = false := beq_eq_false_iff_ne.2 (fun h => c61 (UInt8.toNat_inj.1 (by have e : (61 : UInt8).toNat = 61 := rfl; omega)))
      by_cases c64 : c = 64
      · have e4 : ((c.toNat : Int) == 64) = true := by rw [c64]; rfl
        have hc61 := Lib.hid c61
        have hc64 := Lib.hid c64
        clear c61 c64 hszI hsz
        go_enter Tryz.func13, Tryz.ntmps13
        go_wp2_with fail
        refine HDec.out.mono ?_
        rintro e w1 ⟨hB1, n, rfl, hn⟩
        have B1 := Lib.hid hB1
        clear hB1 HDec
        cases hok : decOk r
        case false =>
          have hR : Hid (dataR t = ⟨⟨#[]⟩, -1, 1⟩) := by unfold Hid; rw [hD.out, if_neg (fun h => hc61.out h.1), if_neg (fun h => by rw [hok] at h; exact absurd h.2.1 (by decide))]
          clear hn hok
          go_wp2_with fail
          go_ret3
          exact ⟨by rw [hR.out]; rfl, B1.out⟩
        case true =>
          have hn := hn hok
          by_cases h6 : decVal r ≤ 65535
          · have e5 : decide (n ≤ 65535) = true := decide_eq_true (by omega)
            have hR : Hid (dataR t = ⟨⟨#[]⟩, n, 0⟩) := by unfold Hid; rw [hD.out, if_neg (fun h => hc61.out h.1), if_pos ⟨hc64.out, hok, h6⟩, hn]
            clear hn hok h6
            go_wp2_with fail
            go_ret3
            exact ⟨by rw [hR.out]; rfl, B1.out⟩
          · have e5 : decide (n ≤ 65535) = false := decide_eq_false (by omega)
            have hR : Hid (dataR t = ⟨⟨#[]⟩, -1, 1⟩) := by unfold Hid; rw [hD.out, if_neg (fun h => hc61.out h.1), if_neg (fun h => h6 h.2.2)]
            clear hn hok h6
            go_wp2_with fail
            go_ret3
            exact ⟨by rw [hR.out]; rfl, B1.out⟩
      · have e4 : ((c.toNat : Int) == 64) = false := beq_eq_false_iff_ne.2 (fun h => c64 (UInt8.toNat_inj.1 (by have e : (64 : UInt8).toNat = 64 := rfl; omega)))
        have hR : Hid (dataR t = ⟨⟨#[]⟩, -1, 1⟩) := by unfold Hid; rw [hD.out, if_neg (fun h => c61 h.1), if_neg (fun h => c64 h.1)]
        clear c61 c64 hszI hsz
        go_enter Tryz.func13, Tryz.ntmps13
        go_wp2_with fail
        go_ret3
        exact ⟨by rw [hR.out]; rfl, Below.refl _ _⟩
/-- A row of cells, wherever it lies. -/
def RowAt (w : World) (B : Nat) (v : Value) (n : Nat) (cs : List Value) : Prop :=
  ∃ A c, v = .slice A n c ∧ (0 < n → ∃ b o, A = some ⟨b, o, none⟩ ∧ b < B ∧ ∀ j x, cs[j]? = some x → w.cell? ⟨b, o + j, none⟩ = some x)
theorem RowAt.below {w w' : World} {B : Nat} {v : Value} {n : Nat} {cs : List Value} (h : RowAt w B v n cs) (hb : Below B w w') : RowAt w' B v n cs := by
  obtain ⟨A, c, hv, h⟩ := h
  refine ⟨A, c, hv, fun hl => ?_⟩
  obtain ⟨b, o, hA, hbl, h⟩ := h hl
  exact ⟨b, o, hA, hbl, fun j x hx => (hb.cell (p := ⟨b, _, none⟩) hbl).trans (h j x hx)⟩
theorem RowAt.mono {w : World} {B B' : Nat} {v : Value} {n : Nat} {cs : List Value} (h : RowAt w B v n cs) (hb : B ≤ B') : RowAt w B' v n cs := by
  obtain ⟨A, c, hv, h⟩ := h
  refine ⟨A, c, hv, fun hl => ?_⟩
  obtain ⟨b, o, hA, hbl, h⟩ := h hl
  exact ⟨b, o, hA, Nat.lt_of_lt_of_le hbl hb, h⟩
theorem own_slice {w : World} {B : Nat} {e : TypeId} {k n : Nat} {v : Value} {xs : List Value} (h : w.ownsRow B e k v n xs) : ∃ A c, v = .slice A n c := by
  rcases h.2 with ⟨rfl, rfl⟩ | ⟨g, cap, cur, rfl, _⟩
  · exact ⟨none, 0, rfl⟩
  · exact ⟨_, _, rfl⟩
theorem own_form {w : World} {B n : Nat} {el : TypeId} {k : Nat} {v : Value} {xs : List Value} (h : w.ownsRow B el k v n xs) (hn : 0 < n) : ∃ g c cur, v = .slice (some ⟨g, 0, none⟩) n c ∧ B ≤ g ∧ Blk w g el cur ∧ cur.toList.take (n * k) = xs := by
  rcases h.2 with ⟨_, h0⟩ | ⟨g, cap, cur, hv, hb, hg, _, _, _, ht⟩
  · omega
  · exact ⟨g, cap, cur, hv, hb, hg, ht⟩
theorem own_none {w : World} {B : Nat} {e : TypeId} {k n : Nat} {A : Option Addr} {c : Nat} {xs : List Value} (h : w.ownsRow B e k (.slice A n c) n xs) (hn : 0 < n) : ∃ g, A = some ⟨g, 0, none⟩ ∧ B ≤ g := by
  obtain ⟨g, c2, cur, hv, hB, _⟩ := own_form h hn
  cases hv
  exact ⟨g, rfl, hB⟩
theorem rowAt_own {w : World} {base k n : Nat} {el : TypeId} {v : Value} {cs : List Value} (h : w.ownsRow base el k v n cs) : RowAt w w.heap.size v n cs := by
  obtain ⟨A, c, rfl⟩ := own_slice h
  refine ⟨A, c, rfl, fun hl => ?_⟩
  obtain ⟨g, rfl, _⟩ := own_none h hl
  refine ⟨g, 0, rfl, (h.lt g rfl).2, fun j x hx => ?_⟩
  have hc := h.cells (g := g) rfl j x hx
  rwa [Addr.add_lit] at hc
def intsC (l : List Int) : List Value := l.map (Value.int .i64)
def strsC (l : List ByteArray) : List Value := l.map Value.string
theorem StepC_any (z : Int) (w : World) : Calls Tryz.prog 74 #[.int .i64 z] w fun e w' => e = .returned (.bool (!argOk z)) ∧ w' = w := by
  by_cases h1 : z < 0
  · have d1 : decide (z < 0) = true := decide_eq_true h1
    have hR : Hid (argOk z = false) := by unfold Hid argOk; rw [decide_eq_false (by omega)]; rfl
    go_enter Tryz.func74, Tryz.ntmps74
    go_wp2_with fail
    go_ret
    exact ⟨by rw [hR.out]; rfl, rfl⟩
  · have d1 : decide (z < 0) = false := decide_eq_false h1
    by_cases h2 : 2199023255552 < z
    · have d2 : decide (2199023255552 < z) = true := decide_eq_true h2
      have hR : Hid (argOk z = false) := by unfold Hid argOk; rw [decide_eq_true (show 0 ≤ z by omega), decide_eq_false (by omega)]; rfl
      go_enter Tryz.func74, Tryz.ntmps74
      go_wp2_with fail
      go_ret
      exact ⟨by rw [hR.out]; rfl, rfl⟩
    · have d2 : decide (2199023255552 < z) = false := decide_eq_false h2
      have hR : Hid (argOk z = true) := by unfold Hid argOk; rw [decide_eq_true (show 0 ≤ z by omega), decide_eq_true (show z ≤ 2199023255552 by omega)]; rfl
      go_enter Tryz.func74, Tryz.ntmps74
      go_wp2_with fail
      go_ret
      exact ⟨by rw [hR.out]; rfl, rfl⟩
def idxOf {α : Type} (p : α → Bool) (l : List α) : Int := if l.findIdx p < l.length then (l.findIdx p : Int) else -1
theorem idxOf_any {α : Type} (p : α → Bool) (l : List α) : decide (0 ≤ idxOf p l) = l.any p := by
  unfold idxOf
  rw [Bool.eq_iff_iff, decide_eq_true_iff, List.any_eq_true, ← List.findIdx_lt_length]
  constructor
  · intro h
    split at h
    · assumption
    · omega
  · intro h
    rw [if_pos h]
    omega
theorem idx_step {α : Type} (p : α → Bool) {l : List α} {i : Nat} {x : α} (h : l[i]? = some x) : (l.drop i).findIdx p = if p x = true then 0 else (l.drop (i + 1)).findIdx p + 1 := by
  obtain ⟨h1, h2⟩ := List.getElem?_eq_some_iff.1 h
  rw [List.drop_eq_getElem_cons h1, h2, List.findIdx_cons]
  cases p x <;> rfl
set_option maxRecDepth 100000 in
set_option maxHeartbeats 4000000 in
theorem IdxInt_any (l : List Int) (v : Value) (B : Nat) (w : World) (h : RowAt w B v l.length (intsC l)) (hl : l.length ≤ 1000000) :
    Calls Tryz.prog 92 #[v, .func (.func 74) #[] #[]] w fun e w' => e = .returned (.int .i64 (idxOf (fun a => !argOk a) l)) ∧ w' = w := by
  obtain ⟨A, c, rfl, hA⟩ := h
  have HA := Lib.hid hA
  obtain ⟨n, hn⟩ : ∃ n, l.length = n := ⟨_, rfl⟩
  have hnH := Lib.hid hn
  rw [hn] at hl HA ⊢
  clear hA hn
  go_enter Tryz.func92, Tryz.ntmps92
  go_wp2_with fail
  go_loopw [8] (fun v8 wr => ∃ i : Nat, v8 = .int .i64 (i : Int) ∧ i ≤ n ∧ Hid (l.findIdx (fun a => !argOk a) = i + (l.drop i).findIdx (fun a => !argOk a)) ∧ wr = w) (fun v8 _ => n - (intOf v8).toNat)
  case atStart => exact ⟨0, rfl, Nat.zero_le _, by unfold Hid; rw [List.drop_zero, Nat.zero_add], rfl⟩
  case round =>
  obtain ⟨i, rfl, hi, hE, hwr⟩ := hrel
  rw [hwr]
  clear hwr
  by_cases hlt : i < n
  · have d1 : decide (i < n) = true := decide_eq_true hlt
    have d2 : decide ((i : Int) < (n : Int)) = true := decide_eq_true (by omega)
    obtain ⟨z, hz⟩ : ∃ z, l[i]? = some z := ⟨_, List.getElem?_eq_getElem (by rw [hnH.out]; exact hlt)⟩
    obtain ⟨b, o, rfl, _, hc⟩ := HA.out (by omega)
    have k0 := hc i (.int .i64 z) (by unfold intsC; rw [List.getElem?_map, hz]; rfl)
    have hstep := Lib.hid (idx_step (fun a => !argOk a) hz)
    have HC := Lib.hid (StepC_any z w)
    have q0 : (0 : Int) ≤ (i : Int) := by omega
    have q1 : (i : Int) < (n : Int) := by omega
    have hltH := Lib.hid hlt
    obtain ⟨t, ht⟩ : ∃ t, (!argOk z) = t := ⟨_, rfl⟩
    rw [ht] at HC hstep
    clear hz hlt hc ht
    go_wp2_with fail
    refine HC.out.mono ?_
    rintro e w2 ⟨rfl, hww⟩
    rw [hww]
    clear hww w2 k0 HC
    cases t
    case true =>
      rw [if_pos rfl] at hstep
      have hR : Hid (idxOf (fun a => !argOk a) l = (i : Int)) := by
        unfold Hid idxOf
        rw [hE.out, hstep.out, hnH.out, if_pos (by have := hltH.out; omega)]
        rfl
      go_wp2_with fail
      go_ret
      exact ⟨by rw [hR.out]; rfl, rfl⟩
    case false =>
      rw [if_neg (by decide)] at hstep
      go_wp2_with fail
      go_roundw
      case rel => exact ⟨i + 1, by go_num, hltH.out, by unfold Hid; rw [hE.out, hstep.out]; omega, trivial⟩
      case measure => have := hltH.out; simp [intOf]; omega
  · have d1 : decide (i < n) = false := decide_eq_false hlt
    have d2 : decide ((i : Int) < (n : Int)) = false := decide_eq_false (by omega)
    have hR : Hid (idxOf (fun a => !argOk a) l = -1) := by
      unfold Hid idxOf
      rw [hE.out, hnH.out, if_neg (by omega)]
    clear hlt
    go_wp2_with fail
    go_ret
    exact ⟨by rw [hR.out]; rfl, rfl⟩
theorem HasInt_any (l : List Int) (v : Value) (B : Nat) (w : World) (h : RowAt w B v l.length (intsC l)) (hl : l.length ≤ 1000000) :
    Calls Tryz.prog 75 #[v, .func (.func 74) #[] #[]] w fun e w' => e = .returned (.bool (l.any fun a => !argOk a)) ∧ w' = w := by
  have H := Lib.hid (IdxInt_any l v B w h hl)
  have hb := Lib.hid (idxOf_any (fun a => !argOk a) l)
  obtain ⟨z, hz⟩ : ∃ z, idxOf (fun a => !argOk a) l = z := ⟨_, rfl⟩
  rw [hz] at H hb
  obtain ⟨A, c, rfl, _⟩ := h
  clear hz hl
  go_enter Tryz.func75, Tryz.ntmps75
  go_wp2_with fail
  refine H.out.mono ?_
  rintro e w1 ⟨rfl, rfl⟩
  go_wp2_with fail
  go_ret
  exact ⟨by rw [← hb.out]; rfl, rfl⟩
end Go.Proofs.YtldkfhimpkiigaaGreatDoor
