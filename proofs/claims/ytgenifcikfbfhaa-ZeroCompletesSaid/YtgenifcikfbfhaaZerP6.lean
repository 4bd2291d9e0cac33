/-
  Layer 33 (zero), plain: failures of the power, any number of times; what is worn keeps its content.
-/
import Derived.Test.YtgenifcikfbfhaaZerL3
namespace Go.Proofs.Ytgenifcikfbfhaa

section
variable {n s f : Nat} {D : Dev}
/-- A device on which zeroization was begun, between two failures of the power. -/
structure ZGo (D : Dev) : Prop where
  down : D.down = false
  left : D.left = -1
  begun : fuseB D 0 = true
  emptied : Emptied D
theorem ZGo.state (h : ZGo D) : zstate D = 1 ∨ zstate D = 2 := by
  unfold zstate
  split
  · exact .inr rfl
  · exact .inl (if_pos h.begun)
theorem ZGo.next {R : Dev} (h0 : fuseB R 0 = true) (h1 : Emptied R) (P : List Int) (J : List ByteArray) : ZGo (zrestore J (zmount P R)) :=
  ⟨rfl, rfl, h0, emptied_of (D := R) rfl rfl h1⟩
theorem trip_emptied (x : Int) (h : Emptied D) : Emptied (ztrip x D) := emptied_of (D := D) rfl rfl h
theorem trip_left (x : Int) : -1 ≤ (ztrip x D).left := by show -1 ≤ max x (-1); omega
theorem ZGo.begin_ (h : ZGo D) (x : Int) (P : List Int) (J : List ByteArray) : ZGo (zrestore J (zmount P (zbegin (ztrip x D)).2)) :=
  ZGo.next (fuseB_fwd (zbegin_fwd (ztrip x D)) 0 h.begun) (zbegin_emptied _ (trip_left x) (trip_emptied x h.emptied)) P J
theorem ZGo.resume (h : ZGo D) (x : Int) (P : List Int) (J : List ByteArray) : ZGo (zrestore J (zmount P (zresume (ztrip x D)).2)) :=
  ZGo.next (fuseB_fwd (zresume_fwd (ztrip x D)) 0 h.begun) (zresume_emptied _ (trip_left x) (trip_emptied x h.emptied)) P J
/-- The beginning. -/
theorem go_first (hok : D.Ok n s f) (hf : 2 ≤ f) (hd : D.down = false) (hl : D.left = -1) (h1 : fuseB D 1 = false) : (zburn 0 D).1 = 0 ∧ ZGo (zburn 0 D).2 := by
  have hfl := hok.fuses
  rw [burn_first hd hl (by omega)]
  refine ⟨rfl, hd, hl, ?_, ?_⟩
  · unfold fuseB
    dsimp only
    rw [List.getD_eq_getElem?_getD, List.getElem?_set_self (by omega)]
    rfl
  · intro he
    have : fuseB D 1 = true := by
      unfold fuseB at he ⊢
      dsimp only at he
      rw [List.getD_eq_getElem?_getD, List.getElem?_set_ne (by omega), ← List.getD_eq_getElem?_getD] at he
      exact he
    rw [h1] at this
    cases this
/-- What is worn, and not dirty. -/
def WornAt (M : List Sec) (j : Nat) : Prop := ∃ x : Sec, M[j]? = some x ∧ x.worn = true ∧ x.dirty = false
theorem worn_write {x : Sec} (h : x.worn = true) (t : ByteArray) : x.write t = x := by
  unfold Sec.write
  rw [if_pos h]
theorem upd_worn {M : List Sec} {j : Nat} (h : WornAt M j) (t : ByteArray) : upd (fun s => s.write t) M (j : Int) = M := by
  obtain ⟨x, hx, hw, _⟩ := h
  unfold upd
  have hj := (List.getElem?_eq_some_iff.1 hx).1
  have e : M.getD j default = x := by rw [List.getD_eq_getElem?_getD, hx]; rfl
  rw [Int.toNat_natCast, e]
  dsimp only
  rw [worn_write hw]
  apply List.ext_getElem?
  intro i
  by_cases hi : j = i
  · subst hi
    rw [List.getElem?_set_self hj, hx]
  · rw [List.getElem?_set_ne hi]
theorem worn_keep {M : List Sec} {j : Nat} (h : WornAt M j) (i : Int) (hi : 0 ≤ i) (t : ByteArray) : WornAt (upd (fun s => s.write t) M i) j := by
  obtain ⟨q, rfl⟩ := Int.eq_ofNat_of_zero_le hi
  by_cases hq : q = j
  · subst hq
    rw [upd_worn h t]
    exact h
  · obtain ⟨x, hx, hw⟩ := h
    refine ⟨x, ?_, hw⟩
    unfold upd
    rw [Int.toNat_natCast, List.getElem?_set_ne hq]
    exact hx
theorem zwrite_up (hd : D.down = false) (hl : D.left = -1) (i : Nat) (hi : i < D.M.length) (t : ByteArray) (ht : t.size = 64) : zwrite i t D = (0, { D with M := upd (fun s => s.write t) D.M i }) := by
  have hc : chk (isAt D.M (i : Int) ∧ t.size = 64) = 0 := by
    unfold chk
    rw [if_pos ⟨⟨by omega, by omega⟩, ht⟩]
  unfold zwrite
  rw [hc, dstep_up D _ hd, if_neg (by omega), hl]
  rfl
/-- A write to a worn sector changes nothing. -/
theorem zwrite_worn (hd : D.down = false) (hl : D.left = -1) (j : Nat) (hj : WornAt D.M j) (t : ByteArray) (ht : t.size = 64) : zwrite j t D = (0, D) := by
  have h := hj
  obtain ⟨x, hx, _⟩ := h
  rw [zwrite_up hd hl j (List.getElem?_eq_some_iff.1 hx).1 t ht, upd_worn hj]
theorem zwrite_ok (h : D.Ok n s f) (i : Nat) (hi : i < D.M.length) (hd : D.down = false) (hl : D.left = -1) (t : ByteArray) (ht : t.size = 64) : (zwrite i t D).2.Ok n s f := by
  rw [zwrite_up hd hl i hi t ht]
  exact ⟨by dsimp only; rw [upd_len]; exact h.M, h.slots, h.fuses, fine_upd_write h.fine _ _ ⟨⟨by omega, by omega⟩, ht⟩, h.left, h.counter, h.clock⟩
theorem leftUp_mem (I : List ByteArray) (j : Nat) (h : j ∈ leftL I) : ∃ t, I[j]? = some t ∧ t ≠ zeros := by
  unfold leftL at h
  obtain ⟨h1, h2⟩ := List.mem_filter.1 h
  have hj : j < I.length := by simpa using h1
  refine ⟨I[j], List.getElem?_eq_getElem hj, fun e => ?_⟩
  have e2 : I.getD j zeros = zeros := by rw [List.getD_eq_getElem?_getD, List.getElem?_eq_getElem hj]; exact e
  rw [decide_eq_true e2] at h2
  cases h2
/-- Behind one Resume for which the power lasts. -/
theorem go_last (hok : D.Ok n s f) (hf : 2 ≤ f) (h : ZGo D) :
    ∃ E : Dev, ztrip (-1) (zresume (ztrip (zcount D : Nat) D)).2 = E ∧ (zresume (ztrip (zcount D : Nat) D)).1 = 0 ∧ E.down = false ∧ E.left = -1 ∧ zstate E = 2 ∧ (∀ t ∈ E.slots, t = zero32) ∧
      (zstate D = 1 → zcount D = s + n + 2 ∧ ∀ j ∈ leftL (E.M.map Sec.now), WornAt E.M j) := by
  refine ⟨_, rfl, ?_⟩
  have hfl := hok.fuses
  rcases h.state with hz | hz
  · have hl2 : (ztrip (zcount D : Nat) D).left = zcount (ztrip (zcount D : Nat) D) := by
      show max ((zcount D : Nat) : Int) (-1) = (zcount D : Nat)
      omega
    have hfin := zfinal (ztrip (zcount D : Nat) D) h.down hz (by show 1 < D.fuses.length; omega) hok.fine hl2
    have hfin1 : ∀ E : Dev, zresume (ztrip (zcount D : Nat) D) = (0, E) → (zresume (ztrip (zcount D : Nat) D)).1 = 0 ∧ (zresume (ztrip (zcount D : Nat) D)).2 = E := fun E e => by rw [e]; exact ⟨rfl, rfl⟩
    obtain ⟨g1, g2⟩ := hfin1 _ hfin
    refine ⟨g1, ?_⟩
    rw [g2]
    refine ⟨h.down, rfl, ?_, ?_, fun _ => ⟨?_, ?_⟩⟩
    · exact zstate_done (D := D) (by omega) rfl
    · intro t ht
      exact List.eq_of_mem_replicate ht
    · unfold zcount
      rw [if_neg (by omega : ¬ zstate D ≠ 1), h.down, hok.slots, hok.M]
      rfl
    · intro j hj
      obtain ⟨t, ht, hne⟩ := leftUp_mem _ j hj
      rw [List.getElem?_map] at ht
      obtain ⟨y, hy, rfl⟩ := Option.map_eq_some_iff.1 ht
      have hy' : (D.M.map fun s => (s.write zeros).flushed)[j]? = some y := hy
      rw [List.getElem?_map] at hy'
      obtain ⟨x, _, rfl⟩ := Option.map_eq_some_iff.1 hy'
      obtain ⟨w1, w2⟩ := left_worn x hne
      exact ⟨_, hy, w1, w2⟩
  · have hb : fuseB D 1 = true := by
      cases e : fuseB D 1
      · unfold zstate at hz
        rw [e, if_neg (by decide)] at hz
        split at hz <;> cases hz
      · rfl
    have hr : zresume (ztrip (zcount D : Nat) D) = (0, ztrip (zcount D : Nat) D) := by
      unfold zresume
      rw [if_pos]
      show zstate D ≠ 1
      omega
    rw [hr]
    refine ⟨rfl, h.down, rfl, hz, ?_, fun e => by omega⟩
    intro t ht
    have ht' : t ∈ D.slots := ht
    rw [h.emptied hb] at ht'
    exact List.eq_of_mem_replicate ht'
end
end Go.Proofs.Ytgenifcikfbfhaa
