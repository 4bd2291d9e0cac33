/-
  Layer 23 (device): an empty slot; Battery.
  Layer 23 (device): slices.Clone of texts and of bools. (Written by a small program.)
  Layer 23 (device): the text of an operation.
  Layer 23 (device): the text of an operation, one byte short.
  Layer 23 (device), plain: what holds of a device behind whatever operations; slots; torn sectors.
  Layer 23 (device), plain: what a cut leaves in each sector; torn contents.
  Layer 23 (device): what lies beside a device that is operated; a device behind the arguments' world.
-/
import Derived.Test.YtgdpgiegiacepaaDoorG6
import Derived.Test.YtgdpgiegiacepaaDoorG4
namespace Go.Proofs.YtgdpgiegiacepaaDoor
open Go.RowKit Go.Shelf
attribute [local go_sem] Oper.semAt_some

theorem rep32 (w : World) : Calls Tryd.prog 20 #[.string ⟨#[0]⟩, .int .i64 32] w fun e w' => e = .returned (.string zero32) ∧ Below w.heap.size w w' := by
  refine (Tryd.strings_Repeat ⟨#[0]⟩ 32 w (by omega) (by show 1 * 32 ≤ 140737488355328; omega)).mono ?_
  rintro e w' ⟨rfl, hB⟩
  refine ⟨?_, hB⟩
  have h : (⟨(Lib.repeatL (⟨#[0]⟩ : ByteArray).data.toList 32).toArray⟩ : ByteArray) = zero32 := by kernel_rfl
  rw [h]
set_option maxRecDepth 100000 in
set_option maxHeartbeats 1600000 in
theorem empty_any (w : World) : Calls Tryd.prog 62 #[] w fun e w' => e = .returned (.string zero32) ∧ Below w.heap.size w w' := by
  go_enter Tryd.func62, Tryd.ntmps62
  go_wp2_with (first | (go_at_call 20; refine (rep32 _).mono ?_; rintro e w1 ⟨rfl, hB1⟩))
  go_ret
  exact ⟨rfl, hB1⟩
/-- The slots behind k rounds of Battery. -/
def emptied (l : List ByteArray) (k : Nat) : List ByteArray := List.replicate k zero32 ++ l.drop k
theorem emptied_len (l : List ByteArray) (k : Nat) (h : k ≤ l.length) : (emptied l k).length = l.length := by simp [emptied]; omega
theorem emptied_set (l : List ByteArray) (k : Nat) (h : k < l.length) : (emptied l k).set k zero32 = emptied l (k + 1) := by
  unfold emptied
  rw [List.set_append_right _ _ (by simp), List.length_replicate, Nat.sub_self, List.drop_eq_getElem_cons h, List.set_cons_zero, List.replicate_succ', List.append_assoc]
  rfl
section
variable {w : World} {d b g sb sc fb fc : Nat} {D : Dev}
set_option maxRecDepth 100000 in
set_option maxHeartbeats 1600000 in
theorem dBattery_any (h : IsDev w d b g sb sc fb fc D) (hN : D.slots.length ≤ 1048576) :
    Calls Tryd.prog 42 #[.pointer (some ⟨d, 0, none⟩)] w fun e w' => e = .returned (.tuple #[]) ∧ IsDev w' d b g sb sc fb fc { D with slots := List.replicate D.slots.length zero32 } ∧ DFr w w' d g sb fb := by
  obtain ⟨c0, c1, c2, c3, c4, c5, c6⟩ := h.cells
  have H := Lib.hid h
  obtain ⟨N, hNN⟩ : ∃ N, D.slots.length = N := ⟨_, rfl⟩
  rw [hNN] at c0 hN
  have HN := Lib.hid hNN
  clear h hNN
  go_enter Tryd.func42, Tryd.ntmps42
  go_wp2_with fail
  go_loopw [9] (fun i wr => ∃ k : Nat, k ≤ N ∧ i = .int .i64 k ∧ IsDev wr d b g sb sc fb fc { D with slots := emptied D.slots k } ∧ DFr w wr d g sb fb) (fun i _ => N - (intOf i).toNat)
  case atStart => exact ⟨0, Nat.zero_le _, rfl, H.out, DFr.refl _⟩
  case round =>
    obtain ⟨k, hk, rfl, hD, hF⟩ := hrel
    by_cases hkN : k < N
    · have hd : decide (k < N) = true := decide_eq_true hkN
      have hkl : k < D.slots.length := by have := HN.out; omega
      have hel : (emptied D.slots k).length = N := (emptied_len _ _ (by omega)).trans HN.out
      have HD := Lib.hid hD
      have HF := Lib.hid hF
      have hk0 : (0 : Int) ≤ (k : Int) := by omega
      have hk1 : (k : Int) < (N : Int) := by omega
      have hwk : wrap64 ((k : Int) + 1) = (k : Int) + 1 := by unfold wrap64; omega
      have y0 := hD.blk.cell 0
      dsimp only at y0
      rw [hel] at y0
      have hstep : Hid (∀ w1, Below wr.heap.size wr.drew w1 → w1.cell? ⟨d, 0, none⟩ = some (.slice (some ⟨sb, 0, none⟩) N sc) ∧ (∃ o, w1.cell? ⟨sb, k, none⟩ = some o) ∧ w1.frozen? ⟨sb, k, none⟩ = false ∧ (w1.setCell ⟨sb, k, none⟩ (.string zero32)).cell? ⟨d, 0, none⟩ = some (.slice (some ⟨sb, 0, none⟩) N sc) ∧
          IsDev (w1.setCell ⟨sb, k, none⟩ (.string zero32)) d b g sb sc fb fc { D with slots := emptied D.slots (k + 1) } ∧ DFr w (w1.setCell ⟨sb, k, none⟩ (.string zero32)) d g sb fb) := by
        intro w1 hB
        have hb : Below wr.heap.size wr w1 := (Below.refl _ wr).drew.trans hB
        have h1 := HD.out.below hb
        obtain ⟨s1, s2⟩ := h1.slotSet k zero32
        dsimp only at s1
        rw [emptied_set _ _ hkl] at s1
        have z0 := h1.blk.cell 0
        have z1 := s1.blk.cell 0
        dsimp only at z0 z1
        rw [hel] at z0
        rw [emptied_len _ _ (by omega), HN.out] at z1
        have zc : w1.cell? ⟨sb, k, none⟩ = some (.string ((emptied D.slots k).getD k ⟨#[]⟩)) := by
          have e1 := h1.srow.cellAt k (by dsimp only; rw [hel]; omega)
          have e2 : (emptied D.slots k)[k]? = some ((emptied D.slots k).getD k ⟨#[]⟩) := by
            rw [List.getD_eq_getElem?_getD, List.getElem?_eq_getElem (by omega)]
            rfl
          rw [e1]
          dsimp only
          unfold strCells
          rw [List.getElem?_map, e2]
          rfl
        exact ⟨z0, ⟨_, zc⟩, h1.srow.frozenAt k, z1, s1, DFr.trans (w' := wr) HF.out (DFr.trans (w' := w1) (DFr.ofBelow hb) (DFr.ofGrown s2 (.inr (.inr (.inl rfl)))))⟩
      have Hel := Lib.hid hel
      clear hD hF hel hkl
      go_wp2_with fail
      go_region_held3 (fun w' => w'.cell? ⟨d, 0, none⟩ = some (.slice (some ⟨sb, 0, none⟩) N sc)) (go_keep)
        (first | (go_at_call 62; refine (empty_any _).mono ?_; rintro e w1 ⟨rfl, hB1⟩; obtain ⟨a0, ⟨o1, a1⟩, a2, a3, hI, hFr⟩ := hstep.out _ hB1))
      go_wp2_with fail
      go_roundw
      case rel => exact ⟨k + 1, by omega, by go_num, hI, hFr⟩
      case measure => simp [intOf]; omega
    · have hd : decide (k < N) = false := decide_eq_false hkN
      have hkN2 : k = N := by omega
      go_wp2_with fail
      go_end0
      refine ⟨by simp, ?_, hF⟩
      have e : emptied D.slots k = List.replicate D.slots.length zero32 := by
        unfold emptied
        rw [hkN2, ← HN.out, List.drop_length, List.append_nil]
      rw [e] at hD
      exact hD
end
end Go.Proofs.YtgdpgiegiacepaaDoor
namespace Go.Proofs.YtgdpgiegiacepaaDoor
open Go.RowKit Go.Shelf
attribute [local go_sem] Oper.semAt_some

theorem infoBool : (Tryd.prog.info? 4).map (fun i => (i.zero, i.size, i.bytes)) = some (some (.bool false), 1, 1) := by kernel_rfl
end Go.Proofs.YtgdpgiegiacepaaDoor
namespace Go.Proofs.YtgdpgiegiacepaaDoor
open Go.RowKit Go.Shelf
attribute [local go_sem] Oper.semAt_some

theorem infoByte : (Tryd.prog.info? 5).map (fun i => (i.zero, i.size, i.bytes)) = some (some (.int .u8 0), 1, 1) := by kernel_rfl
/-- The first k bytes of an operation's text, as cells. -/
def dcells (fill k : Nat) : List Value := (List.range k).map fun (i : Nat) => Value.int .u8 (((fill : Int) + (i : Int) % 5) % 256)
theorem dconv {w : World} {base k fill : Nat} {v : Value} (h : w.ownsRow base 5 1 v k (dcells fill k)) (hk : 0 < k) : (convert 54 9 v).run Tryd.prog w = .ok (.string (dtext fill false k)) w := by
  rcases h.2 with ⟨rfl, h0⟩ | ⟨g, cap, cur, rfl, _, hg, hnc, hcm, hcs, ht⟩
  · omega
  · have hc := run_convert_bytes_back (P := Tryd.prog) w 54 9 5 ⟨g, 0, none⟩ cap ((List.range k).map fun i => UInt8.ofNat (fill + i % 5)) Tryd.underlying54 Tryd.underlying5 Tryd.underlying9 (fun j hj => by
      have hj' : j < k := by simpa using hj
      refine h.cells (g := g) rfl j _ ?_
      unfold dcells
      rw [List.getElem?_map, List.getElem?_range hj']
      simp)
    rw [List.length_map, List.length_range] at hc
    rw [hc]
    unfold dtext
    simp
end Go.Proofs.YtgdpgiegiacepaaDoor
namespace Go.Proofs.YtgdpgiegiacepaaDoor
open Go.RowKit Go.Shelf
attribute [local go_sem] Oper.semAt_some

end Go.Proofs.YtgdpgiegiacepaaDoor
namespace Go.Proofs.YtgdpgiegiacepaaDoor

/-- What holds of a device behind whatever operations. -/
structure Dev.Ok (n s f : Nat) (D : Dev) : Prop where
  M : D.M.length = n
  slots : D.slots.length = s
  fuses : D.fuses.length = f
  fine : Fine D.M
  left : -1 ≤ D.left ∧ D.left ≤ 9223372036854775807
  counter : 0 ≤ D.counter ∧ D.counter ≤ 4611686018427387904
  clock : 0 ≤ D.clock ∧ D.clock ≤ 1099511627776

/-- The new device. -/
def freshDev (n s f : Nat) : Dev := ⟨List.replicate s zero32, List.replicate f false, 0, 0, List.replicate n Sec.blank, false, -1⟩
theorem fresh_ok (n s f : Nat) : (freshDev n s f).Ok n s f :=
  ⟨by simp [freshDev], by simp [freshDev], by simp [freshDev], fun x hx => by
    have := List.eq_of_mem_replicate hx
    subst this
    exact ⟨zeros_size, zeros_size, fun e => by cases e⟩, ⟨by show (-1 : Int) ≤ -1; omega, by show (-1 : Int) ≤ _; omega⟩, ⟨Int.le_refl _, by show (0 : Int) ≤ _; omega⟩, ⟨Int.le_refl _, by show (0 : Int) ≤ _; omega⟩⟩

theorem left_next (l : Int) (h : -1 ≤ l ∧ l ≤ 9223372036854775807) : -1 ≤ max (l - 1) (-1) ∧ max (l - 1) (-1) ≤ 9223372036854775807 := by omega

section
variable {n s f : Nat} {D : Dev}
theorem dstep_ok (h : D.Ok n s f) (c : Int) (F : Dev → Dev) (hF : c = 0 → ({ D with left := max (D.left - 1) (-1) } : Dev).Ok n s f → (F { D with left := max (D.left - 1) (-1) }).Ok n s f) : (D.dstep c F).2.Ok n s f := by
  unfold Dev.dstep
  split
  · exact h
  · split
    · exact h
    · rename_i hc
      split
      · exact ⟨h.M, h.slots, h.fuses, h.fine, ⟨by show (-1 : Int) ≤ -1; omega, by show (-1 : Int) ≤ _; omega⟩, h.counter, h.clock⟩
      · exact hF (by omega) ⟨h.M, h.slots, h.fuses, h.fine, left_next _ h.left, h.counter, h.clock⟩
theorem chk_zero {p : Prop} [Decidable p] (h : chk p = 0) : p := by
  unfold chk at h
  split at h
  · assumption
  · omega
theorem fine_upd_write {M : List Sec} (h : Fine M) (t : ByteArray) (i : Int) (hi : isAt M i ∧ t.size = 64) : Fine (upd (fun s => s.write t) M i) := by
  refine fine_upd (f := fun s => s.write t) h (fun x hx => ?_) hi.1
  unfold Sec.write
  split
  · exact hx
  · exact ⟨hx.1, hx.2.1, fun _ => hi.2⟩
theorem dplay_ok (h : D.Ok n s f) (o : DOp) (ha : -9223372036854775808 ≤ o.a ∧ o.a ≤ 9223372036854775807) (img : List ByteArray) : (dplay o D img).2.1.Ok n s f := by
  have hD : ∀ i ∈ idxs Sec.dirty D.M, ∃ x, D.M[i]? = some x ∧ x.dirty = true := fun i hi => idxs_at hi
  unfold dplay
  by_cases k1 : o.kind = 1
  · rw [if_pos k1]; exact h
  rw [if_neg k1]
  by_cases k2 : o.kind = 2
  · rw [if_pos k2]
    refine dstep_ok h _ _ (fun hc h2 => ?_)
    exact ⟨by dsimp only; rw [upd_len]; exact h.M, h.slots, h.fuses, fine_upd_write h.fine _ _ (chk_zero hc), h2.left, h.counter, h.clock⟩
  rw [if_neg k2]
  by_cases k3 : o.kind = 3
  · rw [if_pos k3]
    refine dstep_ok h _ _ (fun hc h2 => ?_)
    exact ⟨by dsimp only; rw [doneM_len]; exact h.M, h.slots, h.fuses, fine_doneM h.fine _ (fun _ => Nat.le_refl _) _ _ rfl hD, h2.left, h.counter, h.clock⟩
  rw [if_neg k3]
  by_cases k4 : o.kind = 4
  · rw [if_pos k4]; exact h
  rw [if_neg k4]
  by_cases k5 : o.kind = 5
  · rw [if_pos k5]
    refine dstep_ok h _ _ (fun hc h2 => ?_)
    exact ⟨h.M, by dsimp only; rw [List.length_set]; exact h.slots, h.fuses, h.fine, h2.left, h.counter, h.clock⟩
  rw [if_neg k5]
  by_cases k6 : o.kind = 6
  · rw [if_pos k6]
    refine dstep_ok h _ _ (fun hc h2 => ?_)
    exact ⟨h.M, h.slots, by dsimp only; rw [List.length_set]; exact h.fuses, h.fine, h2.left, h.counter, h.clock⟩
  rw [if_neg k6]
  by_cases k7 : o.kind = 7
  · rw [if_pos k7]
    refine dstep_ok h _ _ (fun hc h2 => ?_)
    refine ⟨h.M, h.slots, h.fuses, h.fine, h2.left, ?_, h.clock⟩
    by_cases h1 : 0 ≤ o.a ∧ o.a ≤ 4611686018427387904
    · exact h1
    · rw [if_neg h1] at hc; omega
  rw [if_neg k7]
  by_cases k8 : o.kind = 8
  · rw [if_pos k8]
    by_cases hc : o.a < 0 ∨ 1099511627776 - D.clock < o.a
    · rw [if_pos hc]; exact h
    · rw [if_neg hc]
      have := h.clock
      exact ⟨h.M, h.slots, h.fuses, h.fine, h.left, h.counter, by dsimp only; omega⟩
  rw [if_neg k8]
  by_cases k9 : o.kind = 9
  · rw [if_pos k9]; exact ⟨h.M, h.slots, h.fuses, h.fine, by dsimp only; omega, h.counter, h.clock⟩
  rw [if_neg k9]
  by_cases k10 : o.kind = 10
  · rw [if_pos k10]
    exact ⟨by dsimp only; rw [doneM_len]; exact h.M, h.slots, h.fuses, fine_doneM h.fine _ (pick_le _) _ _ rfl hD, ⟨by show (-1 : Int) ≤ -1; omega, by show (-1 : Int) ≤ _; omega⟩, h.counter, h.clock⟩
  rw [if_neg k10]
  by_cases k11 : o.kind = 11
  · rw [if_pos k11]; exact ⟨h.M, by dsimp only; rw [List.length_replicate]; exact h.slots, h.fuses, h.fine, h.left, h.counter, h.clock⟩
  rw [if_neg k11]
  by_cases k12 : o.kind = 12
  · rw [if_pos k12]
    by_cases hi : isAt D.M o.a
    · rw [if_pos hi]
      exact ⟨by dsimp only; rw [upd_len]; exact h.M, h.slots, h.fuses, fine_upd (f := Sec.stale) h.fine (fun x hx => ⟨hx.2.1, hx.2.1, hx.2.2⟩) hi, h.left, h.counter, h.clock⟩
    · rw [if_neg hi]
      exact h
  rw [if_neg k12]
  by_cases k13 : o.kind = 13
  · rw [if_pos k13]
    by_cases hi : isAt D.M o.a
    · rw [if_pos hi]
      exact ⟨by dsimp only; rw [upd_len]; exact h.M, h.slots, h.fuses, fine_upd (f := Sec.wear) h.fine (fun x hx => ⟨hx.1, hx.2.1, hx.2.2⟩) hi, h.left, h.counter, h.clock⟩
    · rw [if_neg hi]
      exact h
  rw [if_neg k13]
  by_cases k14 : o.kind = 14
  · rw [if_pos k14]; exact h
  rw [if_neg k14]
  by_cases k15 : o.kind = 15
  · rw [if_pos k15]
    by_cases hl : loadErr img D.M = true
    · rw [hl]
      exact h
    · have hf : loadErr img D.M = false := by simpa using hl
      rw [hf]
      unfold loadErr at hf
      have h1 : (img.length : Int) = D.M.length := by simp at hf; exact hf.1
      have h2 : wrongs img = false := by simp at hf; simpa using hf.2
      exact ⟨by dsimp only; rw [if_neg (by decide), loadM_len _ _ (by omega)]; exact h.M, h.slots, h.fuses, by dsimp only; rw [if_neg (by decide)]; exact fine_load h2, h.left, h.counter, h.clock⟩
  rw [if_neg k15]
  exact h

/-- The image behind an operation. -/
theorem dplay_img (o : DOp) (img : List ByteArray) : (dplay o D img).2.2 = if o.kind = 14 then D.M.map Sec.now else img := by
  by_cases k : o.kind = 14
  · unfold dplay
    rw [if_pos k]
    simp [k]
  · rw [if_neg k]
    unfold dplay
    rw [if_neg k]
    by_cases k1 : o.kind = 1
    · rw [if_pos k1]
    rw [if_neg k1]
    by_cases k1 : o.kind = 2
    · rw [if_pos k1]; rfl
    rw [if_neg k1]
    by_cases k1 : o.kind = 3
    · rw [if_pos k1]; rfl
    rw [if_neg k1]
    by_cases k1 : o.kind = 4
    · rw [if_pos k1]
    rw [if_neg k1]
    by_cases k1 : o.kind = 5
    · rw [if_pos k1]; rfl
    rw [if_neg k1]
    by_cases k1 : o.kind = 6
    · rw [if_pos k1]; rfl
    rw [if_neg k1]
    by_cases k1 : o.kind = 7
    · rw [if_pos k1]; rfl
    rw [if_neg k1]
    by_cases k1 : o.kind = 8
    · rw [if_pos k1]
      split <;> rfl
    rw [if_neg k1]
    by_cases k1 : o.kind = 9
    · rw [if_pos k1]
    rw [if_neg k1]
    by_cases k1 : o.kind = 10
    · rw [if_pos k1]
    rw [if_neg k1]
    by_cases k1 : o.kind = 11
    · rw [if_pos k1]
    rw [if_neg k1]
    by_cases k1 : o.kind = 12
    · rw [if_pos k1]
    rw [if_neg k1]
    by_cases k1 : o.kind = 13
    · rw [if_pos k1]
    rw [if_neg k1]
    by_cases k1 : o.kind = 15
    · rw [if_pos k1]
    rw [if_neg k1]
end

/-- The device and the image behind a list of operations. -/
def druns : List DOp → Dev × List ByteArray → Dev × List ByteArray
  | [], x => x
  | o :: r, x => druns r (dplay o x.1 x.2).2
theorem druns_snoc : ∀ (l : List DOp) (o : DOp) (x : Dev × List ByteArray), druns (l ++ [o]) x = (dplay o (druns l x).1 (druns l x).2).2
  | [], _, _ => rfl
  | _ :: l, o, _ => druns_snoc l o _
/-- Behind the first k operations. -/
def dUpTo (n s f : Nat) (ops : List DOp) (k : Nat) : Dev × List ByteArray := druns (ops.take k) (freshDev n s f, [])
theorem dUpTo_succ (n s f : Nat) (ops : List DOp) (k : Nat) (o : DOp) (h : ops[k]? = some o) : dUpTo n s f ops (k + 1) = (dplay o (dUpTo n s f ops k).1 (dUpTo n s f ops k).2).2 := by
  unfold dUpTo
  rw [List.take_add_one, h]
  exact druns_snoc _ _ _
/-- Every operation's number is a number of the machine. -/
def OpsIn (ops : List DOp) : Prop := ∀ (i : Nat) (o : DOp), ops[i]? = some o → -9223372036854775808 ≤ o.a ∧ o.a ≤ 9223372036854775807
theorem dUpTo_ok (n s f : Nat) (ops : List DOp) (ho : OpsIn ops) : ∀ k, k ≤ ops.length → (dUpTo n s f ops k).1.Ok n s f ∧ ((dUpTo n s f ops k).2 = [] ∨ (dUpTo n s f ops k).2.length = n)
  | 0, _ => ⟨fresh_ok n s f, .inl rfl⟩
  | k + 1, h => by
    obtain ⟨o, hk⟩ : ∃ o, ops[k]? = some o := ⟨_, List.getElem?_eq_getElem (by omega)⟩
    obtain ⟨h1, h2⟩ := dUpTo_ok n s f ops ho k (by omega)
    rw [dUpTo_succ n s f ops k o hk]
    refine ⟨dplay_ok h1 o (ho k o hk) _, ?_⟩
    rw [dplay_img]
    split
    · exact .inr (by rw [List.length_map]; exact h1.M)
    · exact h2
end Go.Proofs.YtgdpgiegiacepaaDoor
namespace Go.Proofs.YtgdpgiegiacepaaDoor
open Go.RowKit

theorem idxs_none {p : Sec → Bool} {M : List Sec} (h : ∀ s ∈ M, p s = false) : idxs p M = [] := by
  unfold idxs upto
  rw [List.filter_eq_nil_iff]
  intro i hi
  have hi' : i < M.length := by simpa using hi
  have := h _ (List.getElem_mem hi')
  simp [List.getElem?_eq_getElem hi', this]
theorem idxs_mem {p : Sec → Bool} {M : List Sec} {j : Nat} : j ∈ idxs p M ↔ ∃ s, M[j]? = some s ∧ p s = true := by
  refine ⟨idxs_at, fun ⟨s, h1, h2⟩ => ?_⟩
  unfold idxs upto
  rw [List.mem_filter, List.mem_range]
  exact ⟨(List.getElem?_eq_some_iff.1 h1).1, by simp [h1, h2]⟩

theorem doneM_get (cnt : Nat → Nat) (M : List Sec) : ∀ (n : Nat) (pre : List Nat), pre.length = n → pre.Nodup → ∀ j s, j ∈ pre → M[j]? = some s → ∃ i, (doneM cnt M pre)[j]? = some (s.settle (cnt i))
  | 0, pre, hl, _, j, s, hj, _ => by rw [List.eq_nil_of_length_eq_zero hl] at hj; cases hj
  | n + 1, pre, hl, hn, j, s, hj, hs => by
    have hne : pre ≠ [] := by intro e; rw [e] at hl; simp at hl
    rw [← List.dropLast_concat_getLast hne] at hj hn ⊢
    rw [doneM_snoc]
    by_cases hjl : j = pre.getLast hne
    · subst hjl
      refine ⟨pre.dropLast.length, ?_⟩
      rw [List.getElem?_set_self (by rw [doneM_len]; exact (List.getElem?_eq_some_iff.1 hs).1), List.getD, hs]
      rfl
    · have hj' : j ∈ pre.dropLast := by
        rcases List.mem_append.1 hj with h | h
        · exact h
        · exact absurd (by simpa using h) hjl
      rw [List.getElem?_set_ne (fun e => hjl e.symm)]
      exact doneM_get cnt M n _ (by simp [hl]) (List.nodup_append.1 hn).1 j s hj' hs

/-- A sector behind a flush. -/
def Sec.flushed (s : Sec) : Sec := if s.dirty then ⟨s.fresh, s.now, ⟨#[]⟩, false, s.worn⟩ else s
theorem extract_all {t : ByteArray} (h : t.size = 64) : t.extract 0 64 = t := by
  rw [← h]; exact ByteArray.extract_zero_size
theorem flush_get {M : List Sec} (hf : Fine M) {j : Nat} {s : Sec} (hs : M[j]? = some s) : (doneM (fun _ => 64) M (idxs Sec.dirty M))[j]? = some s.flushed := by
  unfold Sec.flushed
  by_cases hd : s.dirty = true
  · rw [if_pos hd]
    obtain ⟨i, hi⟩ := doneM_get (fun _ => 64) M _ (idxs Sec.dirty M) rfl (upto_nodup _ _) j s (idxs_mem.2 ⟨s, hs, hd⟩) hs
    rw [hi]
    obtain ⟨h1, h2, h3⟩ := hf s (List.mem_of_getElem? hs)
    have h4 := h3 hd
    obtain ⟨now, before, fresh, dirty, worn⟩ := s
    dsimp only at h1 h4 ⊢
    rw [settle_full h1, extract_all h4]
  · rw [if_neg hd, doneM_at _ _ _ _ (fun i hi e => by
      obtain ⟨s', h1, h2⟩ := idxs_mem.1 hi
      rw [e, hs] at h1
      cases h1
      exact hd h2), hs]
theorem flush_map {M : List Sec} (hf : Fine M) : doneM (fun _ => 64) M (idxs Sec.dirty M) = M.map Sec.flushed := by
  apply List.ext_getElem?
  intro j
  rw [List.getElem?_map]
  cases hs : M[j]? with
  | none => rw [List.getElem?_eq_none (by rw [doneM_len]; exact List.getElem?_eq_none_iff.1 hs)]; rfl
  | some s => exact flush_get hf hs
theorem flushed_clean (s : Sec) : s.flushed.dirty = false := by
  unfold Sec.flushed
  split
  · rfl
  · rename_i h; simpa using h
theorem map_clean (M : List Sec) : ∀ s ∈ M.map Sec.flushed, s.dirty = false := by
  intro s hs
  obtain ⟨x, _, rfl⟩ := List.mem_map.1 hs
  exact flushed_clean x
/-- A sector behind a cut. -/
theorem cut_get {M : List Sec} (P : List Int) {j : Nat} {s : Sec} (hs : M[j]? = some s) : (s.dirty = false ∧ (doneM (pick P) M (idxs Sec.dirty M))[j]? = some s) ∨ (s.dirty = true ∧ ∃ n, n ≤ 64 ∧ (doneM (pick P) M (idxs Sec.dirty M))[j]? = some (s.settle n)) := by
  by_cases hd : s.dirty = true
  · obtain ⟨i, hi⟩ := doneM_get (pick P) M _ (idxs Sec.dirty M) rfl (upto_nodup _ _) j s (idxs_mem.2 ⟨s, hs, hd⟩) hs
    exact .inr ⟨hd, _, pick_le P i, hi⟩
  · refine .inl ⟨by simpa using hd, ?_⟩
    rw [doneM_at _ _ _ _ (fun i hi e => by
      obtain ⟨s', h1, h2⟩ := idxs_mem.1 hi
      rw [e, hs] at h1
      cases h1
      exact hd h2), hs]
theorem cut_none {M : List Sec} (P : List Int) (h : ∀ s ∈ M, s.dirty = false) : doneM (pick P) M (idxs Sec.dirty M) = M := by
  rw [idxs_none h, doneM_nil]
theorem settle_clean (s : Sec) (n : Nat) : (s.settle n).dirty = false := by unfold Sec.settle; split <;> rfl

/-- A text's bytes. -/
def toL (t : ByteArray) : List UInt8 := t.data.toList
theorem toL_len (t : ByteArray) : (toL t).length = t.size := by simp [toL]
theorem toL_inj {a b : ByteArray} (h : toL a = toL b) : a = b := by
  obtain ⟨a⟩ := a
  obtain ⟨b⟩ := b
  unfold toL at h
  dsimp only at h
  rw [Array.ext' h]
theorem toL_extract (t : ByteArray) (i j : Nat) : toL (t.extract i j) = ((toL t).drop i).take (j - i) := by
  unfold toL
  rw [ByteArray.data_extract, Array.toList_extract, List.extract_eq_take_drop]
theorem toL_append (a b : ByteArray) : toL (a ++ b) = toL a ++ toL b := by
  unfold toL
  rw [ByteArray.data_append, Array.toList_append]

theorem idx_at (t : ByteArray) {j : Nat} (h : j < t.size) : ∃ b : UInt8, (toL t)[j]? = some b ∧ ∀ w, (Instr.index 9 (.string t) (.int .i64 j)).run Tryd.prog w = .ok (.int .u8 b.toNat) w := by
  refine ⟨t[j], ?_, fun w => ?_⟩
  · unfold toL
    rw [Array.getElem?_toList, Array.getElem?_eq_getElem h]
    rfl
  · rw [run_index_string w 9 t .i64 j Tryd.underlying9, dif_pos ⟨by omega, by omega⟩]
    rfl
/-- Old, new and torn contents. -/
structure Torn (old fresh now : ByteArray) (m : Nat) : Prop where
  sold : old.size = 64
  sfresh : fresh.size = 64
  snow : now.size = 64
  le : m ≤ 64
  low : ∀ i, i < m → (toL now)[i]? = (toL fresh)[i]?
  high : ∀ i, m ≤ i → (toL now)[i]? = (toL old)[i]?

theorem Torn.tail {old fresh now : ByteArray} {m a : Nat} (h : Torn old fresh now m) (ha : m ≤ a) (j : Nat) : now.extract a j = old.extract a j := by
  apply toL_inj
  rw [toL_extract, toL_extract]
  congr 1
  apply List.ext_getElem?
  intro i
  rw [List.getElem?_drop, List.getElem?_drop]
  exact h.high _ (by omega)

theorem tear_plain {M : List Sec} (hf : Fine M) (P : List Int) {k : Nat} {x : Sec} (hx : M[k]? = some x) :
    ∃ y m, (doneM (pick P) M (idxs Sec.dirty M))[k]? = some y ∧ Torn x.now x.seen y.now m ∧ (x.dirty = false → y.now = x.now ∧ x.seen = x.now) := by
  obtain ⟨h1, h2, h3⟩ := hf x (List.mem_of_getElem? hx)
  rcases cut_get P hx with ⟨hd, hy⟩ | ⟨hd, n, hn, hy⟩
  · have hs : x.seen = x.now := by unfold Sec.seen; rw [hd]; rfl
    exact ⟨x, 0, hy, ⟨h1, by rw [hs]; exact h1, h1, by omega, fun i hi => by omega, fun _ _ => rfl⟩, fun _ => ⟨rfl, hs⟩⟩
  · have h4 := h3 hd
    have hs : x.seen = x.fresh := by unfold Sec.seen; rw [hd]; rfl
    refine ⟨_, n, hy, ?_, fun e => by rw [hd] at e; cases e⟩
    rcases Nat.eq_zero_or_pos n with rfl | hp
    · have : (x.settle 0).now = x.now := by unfold Sec.settle; rfl
      rw [this]
      exact ⟨h1, by rw [hs]; exact h4, h1, by omega, fun i hi => by omega, fun _ _ => rfl⟩
    · have e : (x.settle n).now = x.fresh.extract 0 n ++ x.now.extract n x.now.size := by unfold Sec.settle; rw [if_pos hp]
      have el : toL (x.settle n).now = (toL x.fresh).take n ++ (toL x.now).drop n := by
        rw [e, toL_append, toL_extract, toL_extract, h1, Nat.sub_zero, List.drop_zero]
        congr 1
        rw [List.take_of_length_le]
        rw [List.length_drop, toL_len, h1]
        exact Nat.le_refl _
      have l1 : ((toL x.fresh).take n).length = n := by rw [List.length_take, toL_len, h4]; omega
      refine ⟨h1, by rw [hs]; exact h4, ?_, hn, fun i hi => ?_, fun i hi => ?_⟩
      · rw [← toL_len, el, List.length_append, l1, List.length_drop, toL_len, h1]
        omega
      · rw [el, List.getElem?_append_left (by omega), List.getElem?_take_of_lt hi, hs]
      · rw [el, List.getElem?_append_right (by omega), l1, List.getElem?_drop]
        congr 1
        omega
theorem cut_clean {M : List Sec} (P : List Int) : idxs Sec.dirty (doneM (pick P) M (idxs Sec.dirty M)) = [] := by
  apply idxs_none
  intro s hs
  obtain ⟨k, hk⟩ := List.mem_iff_getElem?.1 hs
  have hkl : k < M.length := by have := (List.getElem?_eq_some_iff.1 hk).1; rw [doneM_len] at this; exact this
  rcases cut_get P (List.getElem?_eq_getElem hkl) with ⟨hd, hy⟩ | ⟨hd, n, hn, hy⟩
  · rw [hy] at hk; cases hk; exact hd
  · rw [hy] at hk; cases hk; exact settle_clean _ _
end Go.Proofs.YtgdpgiegiacepaaDoor
namespace Go.Proofs.YtgdpgiegiacepaaDoor
open Go.RowKit Go.Shelf

theorem ownsRow_same {w w' : World} {base : Nat} {e : TypeId} {size : Nat} {v : Value} {n : Nat} {xs : List Value} (h : w.ownsRow base e size v n xs) (hk : ∀ k cs, v.ownBlock = some k → Blk w k e cs → w'.heap[k]? = w.heap[k]?) : w'.ownsRow base e size v n xs := by
  obtain ⟨h1, h2⟩ := h
  refine ⟨h1, ?_⟩
  rcases h2 with h2 | ⟨g, cap, cur, hv, hg, hh, r⟩
  · exact Or.inl h2
  · exact Or.inr ⟨g, cap, cur, hv, hg, (hk g cur (by rw [hv]; rfl) hh).trans hh, r⟩
theorem ownsRow_blk {w : World} {base : Nat} {e : TypeId} {size k n c : Nat} {xs : List Value} (h : w.ownsRow base e size (.slice (some ⟨k, 0, none⟩) n c) n xs) : ∃ cur, Blk w k e cur := by
  rcases h.2 with ⟨h0, _⟩ | ⟨g, cap, cur, hv, _, hh, _⟩
  · cases h0
  · cases hv
    exact ⟨cur, hh⟩

/-- Where a device lies. -/
structure DAt where
  d : Nat
  b : Nat
  g : Nat
  sb : Nat
  sc : Nat
  fb : Nat
  fc : Nat
/-- Two devices have no block in common that is written. -/
structure DAt.Apart (a c : DAt) : Prop where
  d : c.d ≠ a.d
  g : c.g ≠ a.g
  sb : c.sb ≠ a.sb
  fb : c.fb ≠ a.fb
theorem DAt.Apart.symm {a c : DAt} (h : a.Apart c) : c.Apart a := ⟨h.d.symm, h.g.symm, h.sb.symm, h.fb.symm⟩
/-- The device in memory. -/
def DevIs (w : World) (a : DAt) (D : Dev) : Prop := IsDev w a.d a.b a.g a.sb a.sc a.fb a.fc D
/-- What an operation on the device at a leaves. -/
def DLeft (w w' : World) (a : DAt) : Prop := DFr w w' a.d a.g a.sb a.fb

section
variable {W w w' w2 : World} {a c : DAt} {D E : Dev}
theorem DevIs.gblk (h : DevIs w a D) : ∃ cs, Blk w a.g 101 cs := by
  obtain ⟨_, cur, _, h2, _⟩ := h.mem.body
  exact ⟨cur, h2⟩
theorem DevIs.mblk (h : DevIs w a D) : ∃ cs, Blk w a.b 118 cs := by
  obtain ⟨_, cur, h2, _⟩ := h.mem.body
  exact ⟨_, h2⟩
theorem DevIs.sblk (h : DevIs w a D) : ∃ cs, Blk w a.sb 9 cs := ownsRow_blk h.srow
theorem DevIs.fblk (h : DevIs w a D) : ∃ cs, Blk w a.fb 4 cs := ownsRow_blk h.frow
theorem DLeft.blk (hF : DLeft w w' a) (h : DevIs w a D) {k : Nat} {t : TypeId} {cs : Array Value} (hk : Blk w k t cs) (h1 : t = 68 → k ≠ a.d) (h2 : t = 101 → k ≠ a.g) (h3 : t = 9 → k ≠ a.sb) (h4 : t = 4 → k ≠ a.fb) : w'.heap[k]? = w.heap[k]? := by
  obtain ⟨_, q2⟩ := h.gblk
  obtain ⟨_, q3⟩ := h.sblk
  obtain ⟨_, q4⟩ := h.fblk
  refine hF.rest k hk.lt ?_ ?_ ?_ ?_
  · by_cases e : t = 68
    · exact h1 e
    · exact hk.ne_ h.blk e
  · by_cases e : t = 101
    · exact h2 e
    · exact hk.ne_ q2 e
  · by_cases e : t = 9
    · exact h3 e
    · exact hk.ne_ q3 e
  · by_cases e : t = 4
    · exact h4 e
    · exact hk.ne_ q4 e
/-- Another device. -/
theorem DLeft.dev (hF : DLeft w w' a) (h : DevIs w a D) (k : DevIs w c E) (n : a.Apart c) : DevIs w' c E := by
  obtain ⟨cap, cur, m1, m2, m3⟩ := k.mem.body
  refine ⟨(hF.blk h k.blk (fun _ => n.d) (fun e => by cases e) (fun e => by cases e) (fun e => by cases e)).trans k.blk, ⟨k.mem.ne, k.mem.pos, cap, cur, (hF.blk h m1 (fun e => by cases e) (fun e => by cases e) (fun e => by cases e) (fun e => by cases e)).trans m1, (hF.blk h m2 (fun e => by cases e) (fun _ => n.g) (fun e => by cases e) (fun e => by cases e)).trans m2, m3⟩, ?_, ?_⟩
  · refine ownsRow_same k.srow (fun j cs e hj => ?_)
    have : j = c.sb := by cases e; rfl
    exact hF.blk h hj (fun e => by cases e) (fun e => by cases e) (fun _ => by rw [this]; exact n.sb) (fun e => by cases e)
  · refine ownsRow_same k.frow (fun j cs e hj => ?_)
    have : j = c.fb := by cases e; rfl
    exact hF.blk h hj (fun e => by cases e) (fun e => by cases e) (fun e => by cases e) (fun _ => by rw [this]; exact n.fb)
/-- Texts that no device owns. -/
structure Img (w : World) (v : Value) (I : List ByteArray) (a : DAt) : Prop where
  texts : Texts w v I
  own : ∀ k, v.ownBlock = some k → k ≠ a.sb
theorem Img.nil (w : World) (a : DAt) : Img w (.slice none 0 0) [] a := ⟨World.ownsRow_nil _ _ _ _, fun k e => by cases e⟩
theorem Img.slice {v : Value} {I : List ByteArray} (h : Img w v I a) : ∃ A n c, v = .slice A n c := by
  obtain ⟨A, c, e, _⟩ := h.texts.parts
  exact ⟨A, _, c, e⟩
theorem DLeft.img {v : Value} {I : List ByteArray} (hF : DLeft w w' a) (h : DevIs w a D) (k : Img w v I a) : Img w' v I a :=
  ⟨ownsRow_same k.texts (fun j cs e hj => hF.blk h hj (fun e => by cases e) (fun e => by cases e) (fun _ => k.own j e) (fun e => by cases e)), k.own⟩
theorem Img.below {v : Value} {I : List ByteArray} (h : Img w v I a) (hB : Below w.heap.size w w') : Img w' v I a := ⟨ownsRow_below h.texts hB (Nat.le_refl _), h.own⟩
theorem DevIs.below (h : DevIs w a D) (hB : Below w.heap.size w w') : DevIs w' a D := IsDev.below h hB
theorem DLeft.refl (w : World) : DLeft w w a := DFr.refl w
theorem DLeft.trans (h : DLeft w w' a) (k : DLeft w' w2 a) : DLeft w w2 a := DFr.trans (w' := w') h k
theorem DLeft.ofBelow (hB : Below w.heap.size w w') : DLeft w w' a := DFr.ofBelow hB

/-- A device of the call's own: it lies behind the arguments' world W. -/
structure MDev (W w : World) (a : DAt) (D : Dev) : Prop where
  dev : DevIs w a D
  bel : Below W.heap.size W w
  hd : W.heap.size ≤ a.d
  hg : W.heap.size ≤ a.g
  hsb : W.heap.size ≤ a.sb
  hfb : W.heap.size ≤ a.fb
theorem MDev.next (h : MDev W w a D) (hF : DLeft w w' a) (k : DevIs w' a E) : MDev W w' a E :=
  ⟨k, DFr.below hF h.bel h.bel.size h.hd h.hg h.hsb h.hfb, h.hd, h.hg, h.hsb, h.hfb⟩
theorem MDev.on (h : MDev W w a D) (hB : Below w.heap.size w w') : MDev W w' a D :=
  ⟨h.dev.below hB, h.bel.trans (hB.mono h.bel.size), h.hd, h.hg, h.hsb, h.hfb⟩
theorem MDev.beside (h : MDev W w a D) (k : MDev W w c E) (n : a.Apart c) (hF : DLeft w w' a) : MDev W w' c E :=
  ⟨hF.dev h.dev k.dev n, DFr.below hF h.bel h.bel.size h.hd h.hg h.hsb h.hfb, k.hd, k.hg, k.hsb, k.hfb⟩
/-- A device that was made later lies apart. -/
theorem DevIs.apart (h : DevIs w a D) (h1 : w.heap.size ≤ c.d) (h2 : w.heap.size ≤ c.g) (h3 : w.heap.size ≤ c.sb) (h4 : w.heap.size ≤ c.fb) : a.Apart c := by
  obtain ⟨_, q2⟩ := h.gblk
  obtain ⟨_, q3⟩ := h.sblk
  obtain ⟨_, q4⟩ := h.fblk
  have l1 := h.blk.lt
  have l2 := q2.lt
  have l3 := q3.lt
  have l4 := q4.lt
  exact ⟨by omega, by omega, by omega, by omega⟩
theorem Img.fresh {v : Value} {I : List ByteArray} (hT : NewTexts w w' v I) (h : DevIs w a D) : Img w' v I a := by
  refine ⟨⟨hT.1.1, ?_⟩, fun k e => ?_⟩
  · rcases hT.1.2 with h2 | ⟨g, cap, cur, hv, hg, r⟩
    · exact .inl h2
    · exact .inr ⟨g, cap, cur, hv, Nat.zero_le _, r⟩
  · obtain ⟨_, q3⟩ := h.sblk
    have l3 := q3.lt
    have := (hT.1.lt k e).1
    omega
end
end Go.Proofs.YtgdpgiegiacepaaDoor
