/-
  The walks of layer 24 (sector): the specification's Same and Join; few.
-/
import Derived.Test.YtcifkahmeimniabDoorSecW10
namespace Go.Proofs.YtcifkahmeimniabDoor
open Go.RowKit Go.Shelf
attribute [local go_sem] Oper.semAt_some

theorem drewN_add (w : World) (p q : Nat) : (w.drewN p).drewN q = w.drewN (p + q) := by unfold World.drewN; simp [Nat.add_assoc]
theorem StrsAt.at {w : World} {A : Option Addr} {n c : Nat} {l : List ByteArray} (h : StrsAt w (.slice A n c) l) : n = l.length ∧ n ≤ maxLen ∧ ∀ i t, l[i]? = some t → ∃ b o, A = some ⟨b, o, none⟩ ∧ w.cell? ⟨b, o + i, none⟩ = some (.string t) := by
  obtain ⟨A', c', h1, h2, h3, h4⟩ := h
  injection h1 with e1 e2 e3
  subst e1 e2 e3
  refine ⟨rfl, Nat.le_trans h2 h3, fun i t ht => ?_⟩
  obtain ⟨b, o, h5, _, h6⟩ := h4 (by have := (List.getElem?_eq_some_iff.1 ht).1; omega)
  exact ⟨b, o, h5, h6 i t ht⟩
theorem StrsAt.form {w : World} {v : Value} {l : List ByteArray} (h : StrsAt w v l) : ∃ A c, v = .slice A l.length c := by
  obtain ⟨A, c, h1, _⟩ := h
  exact ⟨A, c, h1⟩
set_option maxHeartbeats 4000000 in
set_option maxRecDepth 100000 in
theorem Same_any {w : World} {v u : Value} {a b : List ByteArray} (hv : StrsAt w v a) (hu : StrsAt w u b) :
    Calls Tryd.prog 16 #[v, u] w fun e w' => e = .returned (.bool (decide (a = b))) ∧ ∃ q, w' = w.drewN q := by
  obtain ⟨A, c, rfl⟩ := hv.form
  obtain ⟨B, d, rfl⟩ := hu.form
  obtain ⟨_, ham, hva⟩ := hv.at
  obtain ⟨_, hbm, hub⟩ := hu.at
  unfold maxLen at ham hbm
  have HV := Lib.hid hva
  have HU := Lib.hid hub
  clear hva hub hv hu
  by_cases hl : a.length = b.length
  · have hne : ((a.length : Int) != b.length) = false := bne_f (by omega)
    have hne' : (a.length != b.length) = false := by simpa using hl
    have HL := Lib.hid hl
    clear hl
    go_enter Tryd.func16, Tryd.ntmps16
    go_wp2_with fail
    go_loopw [5] (fun i wr => ∃ k : Nat, k ≤ a.length ∧ i = .int .i64 k ∧ (∀ j, j < k → a[j]? = b[j]?) ∧ ∃ q, wr = w.drewN q) (fun i _ => a.length - (intOf i).toNat)
    case atStart => exact ⟨0, Nat.zero_le _, rfl, fun j hj => by omega, 0, rfl⟩
    case round =>
      obtain ⟨k, hk, rfl, hall, q, hq⟩ := hrel
      have HQ := Lib.hid hq
      clear hq
      have HAll := Lib.hid hall
      clear hall
      by_cases hlt : k < a.length
      · obtain ⟨s, hs⟩ : ∃ s, a[k]? = some s := ⟨_, List.getElem?_eq_getElem hlt⟩
        obtain ⟨t, ht⟩ : ∃ t, b[k]? = some t := ⟨_, List.getElem?_eq_getElem (by have := HL.out; omega)⟩
        obtain ⟨b1, o1, rfl, hc1⟩ := HV.out k s hs
        obtain ⟨b2, o2, rfl, hc2⟩ := HU.out k t ht
        have hkb : (k : Int) < b.length := by have := HL.out; omega
        have hka : (k : Int) < a.length := by omega
        have hk0 : (0 : Int) ≤ (k : Int) := by omega
        have HS := Lib.hid hs
        have HT := Lib.hid ht
        clear hs ht
        have hcc1 : wr.cell? ⟨b1, o1 + k, none⟩ = some (.string s) := by rw [HQ.out]; exact hc1
        have hcc2 : wr.cell? ⟨b2, o2 + k, none⟩ = some (.string t) := by rw [HQ.out]; exact hc2
        clear hc1 hc2
        by_cases hst : s = t
        · have hq1 : (s.toList == t.toList) = true := by rw [hst]; exact beq_self_eq_true _
          have HST := Lib.hid hst
          clear hst
          go_wp2_with fail
          go_quiet (fail)
          go_wp2_with fail
          go_roundw
          case rel =>
            refine ⟨k + 1, by omega, by go_num, fun j hj => ?_, q + nq, by rw [HQ.out]; exact drewN_add w q nq⟩
            by_cases e : j = k
            · subst e; rw [HS.out, HT.out, HST.out]
            · exact HAll.out j (by omega)
          case measure => simp [intOf]; omega
        · have hq1 : (s.toList == t.toList) = false := by
            rw [beq_eq_false_iff_ne, toList_data, toList_data]
            exact fun e => hst (by apply ByteArray.ext; exact Array.ext' e)
          have HST := Lib.hid hst
          clear hst
          have hab : decide (a = b) = false := decide_eq_false (fun e => HST.out (by have h1 := HS.out; rw [e, HT.out] at h1; cases h1; rfl))
          have HAB := Lib.hid hab
          clear hab
          go_wp2_with fail
          go_quiet (fail)
          go_wp2_with fail
          go_ret
          exact ⟨by rw [HAB.out]; rfl, q + nq, by rw [HQ.out]; exact drewN_add w q nq⟩
      · have hab : decide (a = b) = true := decide_eq_true (List.ext_getElem? (fun j => by
          by_cases hj : j < k
          · exact HAll.out j hj
          · rw [List.getElem?_eq_none (by omega), List.getElem?_eq_none (by have := HL.out; omega)]))
        have HAB := Lib.hid hab
        clear hab
        have hk2 : k = a.length := by omega
        subst hk2
        go_wp2_with fail
        go_ret
        exact ⟨by rw [HAB.out]; rfl, q, HQ.out⟩
  · have hne : ((a.length : Int) != b.length) = true := bne_t (by omega)
    have hne' : (a.length != b.length) = true := by simpa using hl
    have hab : decide (a = b) = false := decide_eq_false (fun e => hl (by rw [e]))
    have HAB := Lib.hid hab
    clear hab hl
    go_enter Tryd.func16, Tryd.ntmps16
    go_wp2_with fail
    go_ret
    exact ⟨by rw [HAB.out]; rfl, 0, rfl⟩

/-- At most 200 texts of at most 100 bytes. -/
def fewB (l : List ByteArray) : Bool := decide (l.length ≤ 200) && l.all fun t => decide (t.size ≤ 100)
set_option maxHeartbeats 4000000 in
set_option maxRecDepth 100000 in
theorem few_any {w : World} {v : Value} {l : List ByteArray} (hv : StrsAt w v l) : Calls Tryd.prog 17 #[v] w fun e w' => e = .returned (.bool (fewB l)) ∧ w = w' := by
  obtain ⟨A, c, rfl⟩ := hv.form
  obtain ⟨_, ham, hva⟩ := hv.at
  unfold maxLen at ham
  have HV := Lib.hid hva
  clear hva hv
  go_enter Tryd.func17, Tryd.ntmps17
  go_wp2_with fail
  go_loop [3] (fun i => ∃ k : Nat, k ≤ l.length ∧ i = .int .i64 k ∧ ∀ j t, j < k → l[j]? = some t → t.size ≤ 100) (fun i => l.length - (intOf i).toNat)
  case atStart => exact ⟨0, Nat.zero_le _, rfl, fun j t hj => by omega⟩
  case round =>
    obtain ⟨k, hk, rfl, hall⟩ := hrel
    have HAll := Lib.hid hall
    clear hall
    by_cases hlt : k < l.length
    · obtain ⟨s, hs⟩ : ∃ s, l[k]? = some s := ⟨_, List.getElem?_eq_getElem hlt⟩
      obtain ⟨b1, o1, rfl, hc1⟩ := HV.out k s hs
      have HS := Lib.hid hs
      clear hs
      by_cases h100 : 100 < s.size
      · have hd : decide (100 < (s.size : Int)) = true := decide_eq_true (by omega)
        have hf : fewB l = false := by
          unfold fewB
          rw [Bool.and_eq_false_iff]
          right
          rw [List.all_eq_false]
          exact ⟨s, List.mem_of_getElem? HS.out, by simp; omega⟩
        have HF := Lib.hid hf
        clear hf
        go_wp2_with fail
        go_ret
        exact ⟨by rw [HF.out]; rfl, rfl⟩
      · have hd : decide (100 < (s.size : Int)) = false := decide_eq_false (by omega)
        have H100 := Lib.hid h100
        clear h100
        go_wp2_with fail
        go_round
        case rel =>
          refine ⟨k + 1, by omega, by go_num, fun j t hj ht => ?_⟩
          by_cases e : j = k
          · subst e; rw [HS.out] at ht; cases ht; have := H100.out; omega
          · exact HAll.out j t (by omega) ht
        case measure => simp [intOf]; omega
    · have hk2 : k = l.length := by omega
      subst hk2
      have hf : fewB l = decide (l.length ≤ 200) := by
        unfold fewB
        have : (l.all fun t => decide (t.size ≤ 100)) = true := by
          rw [List.all_eq_true]
          intro t ht
          obtain ⟨j, hj⟩ := List.mem_iff_getElem?.1 ht
          exact decide_eq_true (HAll.out j t (List.getElem?_eq_some_iff.1 hj).1 hj)
        rw [this, Bool.and_true]
      have HF := Lib.hid hf
      clear hf
      by_cases h200 : l.length ≤ 200
      · have hd : decide (l.length ≤ 200) = true := decide_eq_true h200
        have hd' : decide ((l.length : Int) ≤ 200) = true := decide_eq_true (by omega)
        go_wp2_with fail
        go_ret
        exact ⟨by rw [HF.out, decide_eq_true h200]; rfl, rfl⟩
      · have hd' : decide ((l.length : Int) ≤ 200) = false := decide_eq_false (by omega)
        go_wp2_with fail
        go_ret
        exact ⟨by rw [HF.out, decide_eq_false h200]; rfl, rfl⟩
end Go.Proofs.YtcifkahmeimniabDoor
