/-
  Layer 33 (zero), plain: what Resume leaves; how many steps it makes.
  Layer 33 (zero), plain: the order of the steps, wherever the power fails.
  Layer 33 (zero), plain: a device whose last fuse is burned has empty slots; one Resume completes.
  Layer 33 (zero), plain: what holds of a device behind Resume and Begin; step by step.
  Layer 33 (zero): what a round of Resume keeps; a step's call.
-/
import Derived.Test.YtgenifcikfbfhaaG3
import Derived.Test.YtgenifcikfbfhaaZerW3
namespace Go.Proofs.Ytgenifcikfbfhaa

theorem zeffs_append : ∀ (a b : List ZStep) (D : Dev), zeffs (a ++ b) D = zeffs b (zeffs a D)
  | [], _, _ => rfl
  | _ :: r, b, _ => zeffs_append r b _
theorem zeff_fuses (s : ZStep) (h : s ≠ .burn) (D : Dev) : (zeff s D).fuses = D.fuses := by
  cases s with
  | burn => exact absurd rfl h
  | _ => rfl
theorem zeffs_fuses : ∀ (l : List ZStep) (D : Dev), (∀ s ∈ l, s ≠ .burn) → (zeffs l D).fuses = D.fuses
  | [], _, _ => rfl
  | s :: r, D, h => (zeffs_fuses r _ (fun x hx => h x (by simp [hx]))).trans (zeff_fuses s (h s (by simp)) D)
theorem zeffs_slots : ∀ (l : List ZStep) (D : Dev), (∀ s ∈ l, ∀ i, s ≠ .store i) → (zeffs l D).slots = D.slots
  | [], _, _ => rfl
  | s :: r, D, h => (zeffs_slots r _ (fun x hx => h x (by simp [hx]))).trans (by
    cases s with
    | store i => exact absurd rfl (h _ (by simp) i)
    | _ => rfl)
theorem zeffs_M : ∀ (l : List ZStep) (D : Dev), (∀ s ∈ l, ∃ i, s = .store i) → (zeffs l D).M = D.M
  | [], _, _ => rfl
  | s :: r, D, h => (zeffs_M r _ (fun x hx => h x (by simp [hx]))).trans (by
    obtain ⟨i, rfl⟩ := h s (by simp)
    rfl)
/-- The steps but for the last. -/
def zpre (s n : Nat) : List ZStep := (List.range s).map .store ++ ((List.range n).map .write ++ [.flush])
theorem zlist_pre (s n : Nat) : zlist s n = zpre s n ++ [.burn] := by simp [zlist, zpre]
theorem zpre_len (s n : Nat) : (zpre s n).length = s + n + 1 := by simp [zpre]; omega
theorem zpre_burn (s n : Nat) : ∀ x ∈ zpre s n, x ≠ .burn := by
  intro x hx e
  subst e
  simp [zpre] at hx
theorem zpre_fit (D : Dev) : ∀ x ∈ zpre D.slots.length D.M.length, zfit x D := by
  intro x hx
  cases x with
  | store i =>
    have : i < D.slots.length := by simpa [zpre] using hx
    exact this
  | write i =>
    have : i < D.M.length := by simpa [zpre] using hx
    exact this
  | flush => trivial
  | burn => exact absurd rfl (zpre_burn _ _ _ hx)
theorem zlist_fit (D : Dev) (hf : 1 < D.fuses.length) : ∀ x ∈ zlist D.slots.length D.M.length, zfit x D := by
  intro x hx
  rw [zlist_pre] at hx
  rcases List.mem_append.1 hx with h | h
  · exact zpre_fit D x h
  · have : x = .burn := by simpa using h
    subst this
    exact hf
theorem zstate_of {D E : Dev} (h : E.fuses = D.fuses) : zstate E = zstate D := by unfold zstate fuseB; rw [h]

/-- With a step too few the power fails ahead of the last fuse. -/
theorem zresume_less (D : Dev) (hd : D.down = false) (hs : zstate D = 1) (hf : 1 < D.fuses.length) (m : Nat) (hm : D.left = m) (hl : m < D.slots.length + D.M.length + 2) :
    (zresume D).1 = 14 ∧ (zresume D).2.down = true ∧ zstate (zresume D).2 = 1 := by
  have h := ((zrun_up (zlist D.slots.length D.M.length) D hd (zlist_fit D hf)).2 m hm).2 (by rw [zlist_len]; exact hl)
  unfold zresume
  rw [if_neg (by omega : ¬ zstate D ≠ 1), if_neg (by rw [hd]; decide), h]
  refine ⟨rfl, rfl, ?_⟩
  rw [← hs]
  apply zstate_of
  show (zeffs ((zlist D.slots.length D.M.length).take m) D).fuses = D.fuses
  rw [zlist_pre, List.take_append_of_le_length (by rw [zpre_len]; omega)]
  exact zeffs_fuses _ _ (fun x hx => zpre_burn _ _ x (List.mem_of_mem_take hx))
/-- With enough power all steps are made. -/
theorem zresume_enough (D : Dev) (hd : D.down = false) (hs : zstate D = 1) (hf : 1 < D.fuses.length) (m : Nat) (hm : D.left = m) (hl : D.slots.length + D.M.length + 2 ≤ m) :
    zresume D = (0, { zeffs (zlist D.slots.length D.M.length) D with left := (m : Int) - (D.slots.length + D.M.length + 2 : Nat) }) := by
  have h := ((zrun_up (zlist D.slots.length D.M.length) D hd (zlist_fit D hf)).2 m hm).1 (by rw [zlist_len]; exact hl)
  unfold zresume
  rw [if_neg (by omega : ¬ zstate D ≠ 1), if_neg (by rw [hd]; decide), h, zlist_len]
theorem zeffs_all_fuses (s n : Nat) (D : Dev) : (zeffs (zlist s n) D).fuses = D.fuses.set 1 true := by
  rw [zlist_pre, zeffs_append]
  show (zeffs (zpre s n) D).fuses.set 1 true = _
  rw [zeffs_fuses _ _ (zpre_burn s n)]
theorem zstate_done {D E : Dev} (hf : 1 < D.fuses.length) (h : E.fuses = D.fuses.set 1 true) : zstate E = 2 := by
  unfold zstate
  have : fuseB E 1 = true := by
    unfold fuseB
    rw [h, List.getD_eq_getElem?_getD, List.getElem?_set_self hf]
    rfl
  rw [if_pos this]
theorem zeffs_down : ∀ (l : List ZStep) (D : Dev), (zeffs l D).down = D.down
  | [], _ => rfl
  | s :: r, D => (zeffs_down r _).trans (zeff_len s D).2.2.2.1

/-- What the stores leave. -/
theorem zeffs_store (D : Dev) : ∀ k, k ≤ D.slots.length → zeffs ((List.range k).map .store) D = { D with slots := List.replicate k zero32 ++ D.slots.drop k }
  | 0, _ => rfl
  | k + 1, h => by
    rw [List.range_succ, List.map_append, zeffs_append, zeffs_store D k (by omega)]
    show ({ D with slots := (List.replicate k zero32 ++ D.slots.drop k).set k zero32 } : Dev) = _
    congr 1
    rw [List.set_append_right _ _ (by simp), List.length_replicate, Nat.sub_self, List.drop_eq_getElem_cons (by omega), List.set_cons_zero, List.replicate_succ', List.append_assoc]
    rfl
/-- What the writes leave. -/
theorem zeffs_write (D : Dev) : ∀ k, k ≤ D.M.length → zeffs ((List.range k).map .write) D = { D with M := (D.M.take k).map (fun s => s.write zeros) ++ D.M.drop k }
  | 0, _ => rfl
  | k + 1, h => by
    rw [List.range_succ, List.map_append, zeffs_append, zeffs_write D k (by omega)]
    show ({ D with M := upd (fun s => s.write zeros) ((D.M.take k).map (fun s => s.write zeros) ++ D.M.drop k) (k : Int) } : Dev) = _
    congr 1
    have hl : ((D.M.take k).map (fun s => s.write zeros)).length = k := by simp; omega
    have hk : k < D.M.length := by omega
    have e0 : D.M.drop k = D.M[k] :: D.M.drop (k + 1) := List.drop_eq_getElem_cons hk
    have e1 : D.M.take (k + 1) = D.M.take k ++ [D.M[k]] := by rw [List.take_add_one, List.getElem?_eq_getElem hk]; rfl
    unfold upd
    rw [Int.toNat_natCast, e1, List.set_append_right _ _ (by omega), hl, Nat.sub_self, e0, List.set_cons_zero]
    rw [List.getD_eq_getElem?_getD, List.getElem?_append_right (by omega), hl, Nat.sub_self, List.map_append, List.append_assoc]
    rfl
/-- All that Resume leaves. -/
theorem zeffs_all (D : Dev) (hF : Fine D.M) : zeffs (zlist D.slots.length D.M.length) D = { D with slots := List.replicate D.slots.length zero32, M := D.M.map (fun s => (s.write zeros).flushed), fuses := D.fuses.set 1 true } := by
  unfold zlist
  rw [zeffs_append, zeffs_store D _ (Nat.le_refl _), zeffs_append]
  have h := zeffs_write { D with slots := List.replicate D.slots.length zero32 ++ D.slots.drop D.slots.length } D.M.length (Nat.le_refl _)
  rw [h]
  show ({ D with slots := List.replicate D.slots.length zero32 ++ D.slots.drop D.slots.length, M := doneM (fun _ => 64) ((D.M.take D.M.length).map (fun s => s.write zeros) ++ D.M.drop D.M.length) (idxs Sec.dirty ((D.M.take D.M.length).map (fun s => s.write zeros) ++ D.M.drop D.M.length)), fuses := D.fuses.set 1 true } : Dev) = _
  rw [List.drop_length, List.append_nil, List.take_length, List.drop_length, List.append_nil, flush_map, List.map_map]
  · rfl
  · intro s hs
    obtain ⟨x, hx, rfl⟩ := List.mem_map.1 hs
    unfold Sec.write
    split
    · exact hF x hx
    · exact ⟨(hF x hx).1, (hF x hx).2.1, fun _ => zeros_size⟩
end Go.Proofs.Ytgenifcikfbfhaa
namespace Go.Proofs.Ytgenifcikfbfhaa

/-- The power off and on. -/
def zmount (P : List Int) (D : Dev) : Dev := { D with M := doneM (pick P) D.M (idxs Sec.dirty D.M), down := false, left := -1 }
theorem zrun_append : ∀ (a b : List ZStep) (D : Dev), zrun (a ++ b) D = if (zrun a D).1 = 0 then zrun b (zrun a D).2 else zrun a D
  | [], b, D => by rw [List.nil_append, if_pos (by rfl)]; rfl
  | s :: r, b, D => by
    show (if (zdo s D).1 = 0 then zrun (r ++ b) (zdo s D).2 else zdo s D) = if (if (zdo s D).1 = 0 then zrun r (zdo s D).2 else zdo s D).1 = 0 then zrun b (if (zdo s D).1 = 0 then zrun r (zdo s D).2 else zdo s D).2 else (if (zdo s D).1 = 0 then zrun r (zdo s D).2 else zdo s D)
    by_cases h : (zdo s D).1 = 0
    · rw [if_pos h, if_pos h]
      exact zrun_append r b _
    · rw [if_neg h, if_neg h, if_neg h]
/-- Part of the steps: either no sector is written yet, or all slots are empty. -/
theorem ztake_part (D : Dev) (m : Nat) : (zeffs ((zpre D.slots.length D.M.length).take m) D).fuses = D.fuses ∧
    ((zeffs ((zpre D.slots.length D.M.length).take m) D).M = D.M ∨ (zeffs ((zpre D.slots.length D.M.length).take m) D).slots = List.replicate D.slots.length zero32) := by
  refine ⟨zeffs_fuses _ _ (fun x hx => zpre_burn _ _ x (List.mem_of_mem_take hx)), ?_⟩
  unfold zpre
  by_cases h : m ≤ D.slots.length
  · left
    rw [List.take_append_of_le_length (by simpa using h)]
    refine zeffs_M _ _ (fun x hx => ?_)
    obtain ⟨i, _, hi⟩ := List.mem_map.1 (List.mem_of_mem_take hx)
    exact ⟨i, hi.symm⟩
  · right
    rw [List.take_append, List.take_of_length_le (by simp; omega), zeffs_append, zeffs_slots, zeffs_store D _ (Nat.le_refl _)]
    · show List.replicate D.slots.length zero32 ++ D.slots.drop D.slots.length = _
      rw [List.drop_length, List.append_nil]
    · intro x hx i e
      subst e
      have := List.mem_of_mem_take hx
      simp at this
theorem zpre_all (D : Dev) (hF : Fine D.M) : zeffs (zpre D.slots.length D.M.length) D = { D with slots := List.replicate D.slots.length zero32, M := D.M.map (fun s => (s.write zeros).flushed) } := by
  have h := zeffs_all D hF
  rw [zlist_pre, zeffs_append] at h
  have h2 : ∀ E : Dev, zeffs [.burn] E = { E with fuses := E.fuses.set 1 true } := fun _ => rfl
  rw [h2] at h
  have hf := zeffs_fuses _ D (zpre_burn D.slots.length D.M.length)
  generalize zeffs (zpre D.slots.length D.M.length) D = E at h hf
  obtain ⟨a1, a2, a3, a4, a5, a6, a7⟩ := E
  obtain ⟨b1, b2, b3, b4, b5, b6, b7⟩ := D
  dsimp only at h hf ⊢
  simp only [Dev.mk.injEq] at h ⊢
  obtain ⟨h1, h3, h4, h5, h6, h7, h8⟩ := h
  exact ⟨h1, hf, h4, h5, h6, h7, h8⟩
/-- A step that burns leaves slots and sectors. -/
theorem zburn_keeps (D : Dev) : (zdo .burn D).2.slots = D.slots ∧ (zdo .burn D).2.M = D.M ∧ fuseB (zdo .burn D).2 0 = fuseB D 0 := by
  unfold zdo Dev.dstep
  dsimp only
  split
  · exact ⟨rfl, rfl, rfl⟩
  · split
    · exact ⟨rfl, rfl, rfl⟩
    · split
      · exact ⟨rfl, rfl, rfl⟩
      · refine ⟨rfl, rfl, ?_⟩
        unfold fuseB
        dsimp only
        rw [List.getD_eq_getElem?_getD, List.getD_eq_getElem?_getD, List.getElem?_set_ne (by omega)]
theorem mount_clean (P : List Int) (D : Dev) (h : ∀ s ∈ D.M, s.dirty = false) : zmount P D = { D with down := false, left := -1 } := by
  unfold zmount
  rw [cut_none P h]
theorem wz_flushed (s : Sec) (hc : s.dirty = false) : (s.write zeros).flushed.now = s.now ∨ (s.write zeros).flushed.now = zeros := by
  unfold Sec.write
  split
  · left; unfold Sec.flushed; rw [if_neg (by rw [hc]; decide)]
  · right; unfold Sec.flushed; rw [if_pos rfl]

/-- The order: A is the device behind Begin, at whatever step the power failed, and Mount. -/
structure ZOrd (D A : Dev) : Prop where
  len : A.M.length = D.M.length ∧ A.slots.length = D.slots.length
  done : fuseB A 1 = true → A.slots = List.replicate D.slots.length zero32 ∧ ∀ (i : Nat) (x y : Sec), D.M[i]? = some x → A.M[i]? = some y → y.now = x.now ∨ y.now = zeros
  not : fuseB A 0 = false → A.slots = D.slots ∧ A.M = D.M
  begun : fuseB A 0 = true → A.slots = List.replicate D.slots.length zero32 ∨ (A.M = D.M ∧ fuseB A 1 = false)
theorem zorder (D : Dev) (P : List Int) (hd : D.down = false) (hF : Fine D.M) (hc : ∀ s ∈ D.M, s.dirty = false) (h0 : fuseB D 0 = false) (h1 : fuseB D 1 = false) (hf : 0 < D.fuses.length) (m : Nat) (hm : D.left = m) :
    ZOrd D (zmount P (zbegin D).2) := by
  have hchk : chk (inS D.fuses (0 : Int)) = 0 := by
    unfold chk
    rw [if_pos ⟨by omega, by omega⟩]
  have hb := dstep_up D (fun D => { D with fuses := D.fuses.set 0 true }) hd
  by_cases hm0 : m = 0
  · rw [if_pos (by omega)] at hb
    unfold zbegin
    dsimp only
    rw [hchk, hb, if_pos (by show (14 : Int) ≠ 0; decide)]
    dsimp only
    rw [mount_clean P (({ D with down := true, left := -1 } : Dev)) hc]
    refine ⟨⟨rfl, rfl⟩, fun h => ?_, fun _ => ⟨rfl, rfl⟩, fun h => ?_⟩
    · have h' : fuseB D 1 = true := h
      rw [h1] at h'
      cases h'
    · have h' : fuseB D 0 = true := h
      rw [h0] at h'
      cases h'
  · rw [if_neg (by omega)] at hb
    unfold zbegin
    dsimp only
    rw [hchk, hb, if_neg (by show ¬ (0 : Int) ≠ 0; decide), hm]
    have hmx : max ((m : Int) - 1) (-1) = ((m - 1 : Nat) : Int) := by omega
    rw [hmx]
    generalize hG : ({ D with fuses := D.fuses.set 0 true, left := ((m - 1 : Nat) : Int) } : Dev) = G
    have gs : G.slots = D.slots := by rw [← hG]
    have gM : G.M = D.M := by rw [← hG]
    have gf : G.fuses = D.fuses.set 0 true := by rw [← hG]
    have gd : G.down = false := by rw [← hG]; exact hd
    have gl : G.left = ((m - 1 : Nat) : Int) := by rw [← hG]
    have g0 : fuseB G 0 = true := by
      unfold fuseB
      rw [gf, List.getD_eq_getElem?_getD, List.getElem?_set_self hf]
      rfl
    have g1 : fuseB G 1 = false := by
      unfold fuseB at h1 ⊢
      rw [gf, List.getD_eq_getElem?_getD, List.getElem?_set_ne (by omega), ← List.getD_eq_getElem?_getD]
      exact h1
    have gz : zstate G = 1 := by
      unfold zstate
      rw [if_neg (by rw [g1]; decide), if_pos g0]
    unfold zresume
    rw [if_neg (by omega : ¬ zstate G ≠ 1), if_neg (by rw [gd]; decide), zlist_pre, zrun_append]
    obtain ⟨u1, u2⟩ := (zrun_up (zpre G.slots.length G.M.length) G gd (zpre_fit G)).2 (m - 1) gl
    by_cases hl : m - 1 < (zpre G.slots.length G.M.length).length
    · rw [u2 hl, if_neg (by show ¬ (14 : Int) = 0; decide)]
      obtain ⟨k1, k2⟩ := ztake_part G (m - 1)
      generalize hE : zeffs ((zpre G.slots.length G.M.length).take (m - 1)) G = E at k1 k2 ⊢
      have el : E.M.length = D.M.length ∧ E.slots.length = D.slots.length := by
        have hall : ∀ (l : List ZStep) (X : Dev), (zeffs l X).M.length = X.M.length ∧ (zeffs l X).slots.length = X.slots.length := by
          intro l
          induction l with
          | nil => exact fun _ => ⟨rfl, rfl⟩
          | cons s r ih => exact fun X => ⟨(ih _).1.trans (zeff_len s X).2.1, (ih _).2.trans (zeff_len s X).1⟩
        rw [← hE, (hall _ _).1, (hall _ _).2, gM, gs]
        exact ⟨rfl, rfl⟩
      have e0 : fuseB (zmount P { E with down := true, left := -1 }) 0 = true := by
        show fuseB E 0 = true
        unfold fuseB at g0 ⊢
        rw [k1]
        exact g0
      have e1 : fuseB (zmount P { E with down := true, left := -1 }) 1 = false := by
        show fuseB E 1 = false
        unfold fuseB at g1 ⊢
        rw [k1]
        exact g1
      refine ⟨⟨?_, el.2⟩, fun h => (by rw [e1] at h; cases h), fun h => (by rw [e0] at h; cases h), fun _ => ?_⟩
      · show (doneM (pick P) E.M _).length = _
        rw [doneM_len]
        exact el.1
      · rcases k2 with k | k
        · right
          refine ⟨?_, e1⟩
          show doneM (pick P) E.M (idxs Sec.dirty E.M) = _
          rw [k, gM, cut_none P hc]
        · left
          show E.slots = _
          rw [k, gs]
    · rw [u1 (by omega), if_pos (by rfl)]
      have hall := zpre_all G (by rw [gM]; exact hF)
      rw [hall]
      generalize hE : ({ ({ G with slots := List.replicate G.slots.length zero32, M := G.M.map (fun s => (s.write zeros).flushed) } : Dev) with left := ((m - 1 : Nat) : Int) - ((zpre G.slots.length G.M.length).length : Int) } : Dev) = E
      have es : E.slots = List.replicate D.slots.length zero32 := by rw [← hE, ← gs]
      have eM : E.M = D.M.map (fun s => (s.write zeros).flushed) := by rw [← hE, ← gM]
      have ef : fuseB E 0 = true := by rw [← hE]; exact g0
      obtain ⟨z1, z2, z3⟩ := zburn_keeps E
      have hr : (zrun [.burn] E).2 = (zdo .burn E).2 := by
        show (if (zdo .burn E).1 = 0 then zrun [] (zdo .burn E).2 else zdo .burn E).2 = _
        split <;> rfl
      rw [hr]
      generalize hZ : (zdo .burn E).2 = Z at z1 z2 z3 ⊢
      have hcl : ∀ s ∈ Z.M, s.dirty = false := by
        rw [z2, eM]
        intro s hs
        obtain ⟨x, _, rfl⟩ := List.mem_map.1 hs
        exact flushed_clean _
      rw [mount_clean P Z hcl]
      refine ⟨⟨?_, ?_⟩, fun _ => ⟨?_, fun i x y hx hy => ?_⟩, fun h => ?_, fun _ => .inl ?_⟩
      · show Z.M.length = _
        rw [z2, eM, List.length_map]
      · show Z.slots.length = _
        rw [z1, es, List.length_replicate]
      · show Z.slots = _
        rw [z1, es]
      · have hy' : Z.M[i]? = some y := hy
        rw [z2, eM, List.getElem?_map, hx] at hy'
        cases hy'
        exact wz_flushed x (hc x (List.mem_of_getElem? hx))
      · have h' : fuseB Z 0 = false := h
        rw [z3, ef] at h'
        cases h'
      · show Z.slots = _
        rw [z1, es]
end Go.Proofs.Ytgenifcikfbfhaa
namespace Go.Proofs.Ytgenifcikfbfhaa

theorem zpre_slots (D : Dev) : (zeffs (zpre D.slots.length D.M.length) D).slots = List.replicate D.slots.length zero32 := by
  unfold zpre
  rw [zeffs_append, zeffs_slots, zeffs_store D _ (Nat.le_refl _)]
  · show List.replicate D.slots.length zero32 ++ D.slots.drop D.slots.length = _
    rw [List.drop_length, List.append_nil]
  · intro x hx i e
    subst e
    simp at hx
/-- If the last fuse is burned, all slots are empty. -/
def Emptied (D : Dev) : Prop := fuseB D 1 = true → D.slots = List.replicate D.slots.length zero32
theorem emptied_of {D E : Dev} (hs : E.slots = D.slots) (hf : fuseB E 1 = fuseB D 1) (h : Emptied D) : Emptied E := by
  intro he
  rw [hs]
  exact h (hf ▸ he)
theorem zrun_emptied (D : Dev) (hd : D.down = false) (hl : -1 ≤ D.left) (h1 : fuseB D 1 = false) : Emptied (zrun (zlist D.slots.length D.M.length) D).2 := by
  rw [zlist_pre, zrun_append]
  obtain ⟨u0, u⟩ := zrun_up (zpre D.slots.length D.M.length) D hd (zpre_fit D)
  have done : ∀ E : Dev, E.slots = List.replicate D.slots.length zero32 → Emptied (zrun [.burn] E).2 := by
    intro E hE _
    obtain ⟨z1, _, _⟩ := zburn_keeps E
    have hr : (zrun [.burn] E).2 = (zdo .burn E).2 := by
      show (if (zdo .burn E).1 = 0 then zrun [] (zdo .burn E).2 else zdo .burn E).2 = _
      split <;> rfl
    rw [hr, z1, hE, List.length_replicate]
  by_cases hn : D.left = -1
  · rw [u0 (by omega) hn, if_pos (by rfl)]
    exact done _ (zpre_slots D)
  · obtain ⟨m, hm⟩ : ∃ m : Nat, D.left = m := ⟨D.left.toNat, by omega⟩
    obtain ⟨u1, u2⟩ := u m hm
    by_cases hl : m < (zpre D.slots.length D.M.length).length
    · rw [u2 hl, if_neg (by show ¬ (14 : Int) = 0; decide)]
      intro he
      have he' : fuseB (zeffs ((zpre D.slots.length D.M.length).take m) D) 1 = true := he
      unfold fuseB at he' h1
      rw [(ztake_part D m).1, h1] at he'
      cases he'
    · rw [u1 (by omega), if_pos (by rfl)]
      exact done _ (zpre_slots D)
theorem zresume_emptied (D : Dev) (hl : -1 ≤ D.left) (h : Emptied D) : Emptied (zresume D).2 := by
  unfold zresume
  split
  · exact h
  · rename_i hs
    split
    · exact h
    · rename_i hd
      refine zrun_emptied D (by simpa using hd) hl ?_
      cases e : fuseB D 1
      · rfl
      · unfold zstate at hs
        rw [if_pos e] at hs
        exact absurd (by decide) hs
theorem burn0_emptied (D : Dev) (hl : -1 ≤ D.left) (h : Emptied D) (c : Int) : Emptied (D.dstep c fun D => { D with fuses := D.fuses.set 0 true }).2 ∧ -1 ≤ (D.dstep c fun D => { D with fuses := D.fuses.set 0 true }).2.left := by
  unfold Dev.dstep
  split
  · exact ⟨h, hl⟩
  · split
    · exact ⟨h, hl⟩
    · split
      · exact ⟨emptied_of (D := D) rfl rfl h, by show (-1 : Int) ≤ -1; omega⟩
      · refine ⟨emptied_of (D := D) rfl ?_ h, by dsimp only; omega⟩
        unfold fuseB
        dsimp only
        rw [List.getD_eq_getElem?_getD, List.getD_eq_getElem?_getD, List.getElem?_set_ne (by omega)]
theorem zbegin_emptied (D : Dev) (hl : -1 ≤ D.left) (h : Emptied D) : Emptied (zbegin D).2 := by
  obtain ⟨k1, k2⟩ := burn0_emptied D hl h (chk (inS D.fuses (0 : Int)))
  unfold zbegin
  dsimp only
  split
  · exact k1
  · exact zresume_emptied _ k2 k1
/-- One Resume for which the power lasts. -/
theorem zfinal (D : Dev) (hd : D.down = false) (hs : zstate D = 1) (hf : 1 < D.fuses.length) (hF : Fine D.M) (hl : D.left = zcount D) :
    zresume D = (0, { D with slots := List.replicate D.slots.length zero32, M := D.M.map (fun s => (s.write zeros).flushed), fuses := D.fuses.set 1 true, left := 0 }) := by
  have hc : zcount D = D.slots.length + D.M.length + 2 := by
    unfold zcount
    rw [if_neg (by omega : ¬ zstate D ≠ 1), hd]
    rfl
  rw [zresume_enough D hd hs hf (zcount D) hl (by omega), zeffs_all D hF]
  have e : ((zcount D : Nat) : Int) - ((D.slots.length + D.M.length + 2 : Nat) : Int) = 0 := by omega
  rw [e]
/-- What is left then is worn. -/
theorem left_worn (s : Sec) (h : (s.write zeros).flushed.now ≠ zeros) : (s.write zeros).flushed.worn = true ∧ (s.write zeros).flushed.dirty = false := by
  refine ⟨?_, flushed_clean _⟩
  cases hw : s.worn
  · exfalso
    apply h
    unfold Sec.write Sec.flushed
    rw [hw]
    rfl
  · unfold Sec.write Sec.flushed
    rw [if_pos hw]
    split
    · exact hw
    · exact hw
end Go.Proofs.Ytgenifcikfbfhaa
namespace Go.Proofs.Ytgenifcikfbfhaa

section
variable {n s f : Nat}
theorem zdo_ok {D : Dev} (h : D.Ok n s f) (x : ZStep) : (zdo x D).2.Ok n s f := by
  have hD : ∀ i ∈ idxs Sec.dirty D.M, ∃ x, D.M[i]? = some x ∧ x.dirty = true := fun i hi => idxs_at hi
  cases x with
  | store i =>
    refine dstep_ok h _ _ (fun hc h2 => ?_)
    exact ⟨h.M, by dsimp only; rw [List.length_set]; exact h.slots, h.fuses, h.fine, h2.left, h.counter, h.clock⟩
  | write i =>
    refine dstep_ok h _ _ (fun hc h2 => ?_)
    exact ⟨by dsimp only; rw [upd_len]; exact h.M, h.slots, h.fuses, fine_upd_write h.fine _ _ (chk_zero hc), h2.left, h.counter, h.clock⟩
  | flush =>
    refine dstep_ok h _ _ (fun hc h2 => ?_)
    exact ⟨by dsimp only; rw [doneM_len]; exact h.M, h.slots, h.fuses, fine_doneM h.fine _ (fun _ => Nat.le_refl _) _ _ rfl hD, h2.left, h.counter, h.clock⟩
  | burn =>
    refine dstep_ok h _ _ (fun hc h2 => ?_)
    exact ⟨h.M, h.slots, by dsimp only; rw [List.length_set]; exact h.fuses, h.fine, h2.left, h.counter, h.clock⟩
theorem zrun_one (x : ZStep) (D : Dev) : zrun [x] D = zdo x D := by
  show (if (zdo x D).1 = 0 then zrun [] (zdo x D).2 else zdo x D) = _
  split
  · rename_i h
    show (0, (zdo x D).2) = _
    rw [← h]
  · rfl
theorem zrun_snoc (l : List ZStep) (x : ZStep) (D : Dev) : zrun (l ++ [x]) D = if (zrun l D).1 = 0 then zdo x (zrun l D).2 else zrun l D := by
  rw [zrun_append, zrun_one]
theorem zrun_ok : ∀ (l : List ZStep) {D : Dev}, D.Ok n s f → (zrun l D).2.Ok n s f
  | [], _, h => h
  | x :: r, D, h => by
    unfold zrun
    split
    · exact zrun_ok r (zdo_ok h x)
    · exact zdo_ok h x
theorem zresume_ok {D : Dev} (h : D.Ok n s f) : (zresume D).2.Ok n s f := by
  unfold zresume
  split
  · exact h
  · split
    · exact h
    · exact zrun_ok _ h
theorem zbegin_ok {D : Dev} (h : D.Ok n s f) : (zbegin D).2.Ok n s f := by
  have h1 : (D.dstep (chk (inS D.fuses (0 : Int))) fun D => { D with fuses := D.fuses.set 0 true }).2.Ok n s f := by
    refine dstep_ok h _ _ (fun hc h2 => ?_)
    exact ⟨h.M, h.slots, by dsimp only; rw [List.length_set]; exact h.fuses, h.fine, h2.left, h.counter, h.clock⟩
  unfold zbegin
  dsimp only
  split
  · exact h1
  · exact zresume_ok h1
end
/-- The first k steps, one more. -/
theorem zrun_take (l : List ZStep) (D : Dev) (k : Nat) (x : ZStep) (hx : l[k]? = some x) (h0 : (zrun (l.take k) D).1 = 0) : zrun (l.take (k + 1)) D = zdo x (zrun (l.take k) D).2 := by
  rw [List.take_add_one, hx]
  show zrun (l.take k ++ [x]) D = _
  rw [zrun_snoc, if_pos h0]
/-- A step that fails ends the run. -/
theorem zrun_stop (l : List ZStep) (D : Dev) (k : Nat) (x : ZStep) (hx : l[k]? = some x) (h0 : (zrun (l.take k) D).1 = 0) (h1 : (zdo x (zrun (l.take k) D).2).1 ≠ 0) : zrun l D = zdo x (zrun (l.take k) D).2 := by
  have e : l = l.take (k + 1) ++ l.drop (k + 1) := (List.take_append_drop _ _).symm
  have h2 := zrun_take l D k x hx h0
  rw [e, zrun_append, h2, if_neg h1]
  rw [← e]
end Go.Proofs.Ytgenifcikfbfhaa
namespace Go.Proofs.Ytgenifcikfbfhaa
open Go.RowKit Go.Shelf
attribute [local go_sem] Oper.semAt_some

section
variable {w W W' : World} {d b g sb sc fb fc : Nat} {D : Dev}
/-- A block of cells is not the row of a block that holds no cells. -/
theorem blk_row {row : Option Nat} {k : Nat} {t : TypeId} {cs : Array Value} (hk : Blk W k t cs) (hr : ∀ r, row = some r → ∃ o : Obj, W.heap[r]? = some o ∧ o.isCells = false) : some k ≠ row := by
  intro e
  obtain ⟨o, ho, hc⟩ := hr k e.symm
  unfold Blk at hk
  rw [hk] at ho
  cases ho
  cases hc
theorem isDev_own {row : Option Nat} (h : IsDev W d b g sb sc fb fc D) (hg : W.grownBy W' row) (hr : ∀ r, row = some r → ∃ o : Obj, W.heap[r]? = some o ∧ o.isCells = false) : IsDev W' d b g sb sc fb fc D := by
  obtain ⟨cap, cur, m1, m2, _⟩ := h.mem.body
  refine ⟨h.blk.grown hg (blk_row h.blk hr), h.mem.grown hg (blk_row m1 hr) (blk_row m2 hr), ?_, ?_⟩
  · obtain ⟨_, q⟩ := ownsRow_blk h.srow
    exact h.srow.kept hg (.inr (fun e => blk_row q hr e))
  · obtain ⟨_, q⟩ := ownsRow_blk h.frow
    exact h.frow.kept hg (.inr (fun e => blk_row q hr e))
theorem DFr.grownRow {row : Option Nat} (h : DFr w W d g sb fb) (hg : W.grownBy W' row) (hr : ∀ r, row = some r → w.heap.size ≤ r) : DFr w W' d g sb fb :=
  ⟨hg.os.trans h.os, hg.tape.trans h.tape, hg.output.trans h.output, Nat.le_trans h.size hg.size, fun k hk h1 h2 h3 h4 => (hg.block k (Nat.lt_of_lt_of_le hk h.size) (fun e => by have := hr k e.symm; omega)).trans (h.rest k hk h1 h2 h3 h4)⟩
theorem DFr.others (h : DFr W W' d g sb fb) (k : IsDev W d b g sb sc fb fc D) : KeepsOthers W W' := by
  obtain ⟨_, q2⟩ := DevIs.gblk (a := ⟨d, b, g, sb, sc, fb, fc⟩) k
  obtain ⟨_, q3⟩ := DevIs.sblk (a := ⟨d, b, g, sb, sc, fb, fc⟩) k
  obtain ⟨_, q4⟩ := DevIs.fblk (a := ⟨d, b, g, sb, sc, fb, fc⟩) k
  refine ⟨h.size, fun j o ho hc => ?_⟩
  have ne : ∀ {m : Nat} {t : TypeId} {cs : Array Value}, Blk W m t cs → j ≠ m := by
    intro m t cs hm e
    subst e
    unfold Blk at hm
    rw [hm] at ho
    cases ho
    cases hc
  rw [h.rest j (Array.getElem?_eq_some_iff.1 ho).1 (ne k.blk) (ne q2) (ne q3) (ne q4)]
  exact ho
end
end Go.Proofs.Ytgenifcikfbfhaa
