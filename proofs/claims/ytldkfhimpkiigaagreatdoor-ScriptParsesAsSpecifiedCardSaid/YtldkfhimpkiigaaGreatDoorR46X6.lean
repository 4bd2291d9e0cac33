/-
  Layer 46 (script), the specification: Parse.
-/
import Derived.Test.YtldkfhimpkiigaaGreatDoorR46X5
import Derived.Test.YtldkfhimpkiigaaGreatDoorR46W7
import Derived.Test.YtldkfhimpkiigaaGreatDoorScrW12
import Derived.Test.YtldkfhimpkiigaaGreatDoorScrW19
namespace Go.Proofs.YtldkfhimpkiigaaGreatDoor
open Go.RowKit ScrP
attribute [local go_sem] Oper.semAt_some

/-- What the specification's Parse leaves. -/
def RParsePost (w : World) (r : ParR) (e : Ending) (w' : World) : Prop :=
  ∃ vt vs, e = .returned (.agg #[vt, vs, .int .i64 (r.line : Int), .int .i64 r.err]) ∧ ScrAt w' w'.heap.size (.agg #[vt, vs]) r.scr ∧ Below w.heap.size w w'
theorem rpost_no {w w' : World} {k : Nat} {c : Int} (hB : Below w.heap.size w w') : RParsePost w ⟨noScr, k, c⟩ (.returned (.agg #[.slice none 0 0, .slice none 0 0, .int .i64 (k : Int), .int .i64 c])) w' :=
  ⟨_, _, rfl, scrAt_no _ _, hB⟩
theorem linfo_of {text : ByteArray} {LL : List ByteArray} (hb : bls LL = partsB 10 text.data.toList) : LInfo text LL := by
  have hs := parts_size 10 text.data.toList
  have hl : text.data.toList.length = text.size := Array.length_toList
  rw [← hb, hl] at hs
  unfold bls at hs
  rw [List.map_map] at hs
  have hs2 : (LL.map fun x => x.size + 1).sum = text.size + 1 := by
    rw [← hs]
    congr 1
  refine ⟨hb, ?_, hs2⟩
  rw [← hs2]
  clear hb hs hs2
  induction LL with
  | nil => exact Nat.zero_le _
  | cons a r ih => rw [List.map_cons, List.sum_cons, List.length_cons]; omega
theorem cur_at {cur : Array Value} {m : Nat} {LL : List ByteArray} (h : cur.toList.take m = strsC LL) {i : Nat} {l : ByteArray} (hl : LL[i]? = some l) : cur[i]? = some (.string l) := by
  have h1 : (cur.toList.take m)[i]? = some (.string l) := by rw [h]; unfold strsC; rw [List.getElem?_map, hl]; rfl
  rw [List.getElem?_take] at h1
  split at h1
  · rw [← Array.getElem?_toList]; exact h1
  · cases h1
theorem readL_end0 {L : List (List UInt8)} (h : ∀ l r, L = l :: r → isBar l = false) (k : Nat) (s : Scr) : readL L k s true true = ⟨noScr, k, 3⟩ := by
  cases L with
  | nil => rfl
  | cons l r => exact readL_open (h l r rfl)
theorem readL_end1 {L : List (List UInt8)} (h : ∀ l r, L = l :: r → isBar l = false) (k : Nat) (s : Scr) : readL L k s true false = readL L k s false false := by
  cases L with
  | nil => rfl
  | cons l r =>
    have hb := h l r rfl
    unfold readL
    rw [hb]
    rfl
theorem head_bar {c : UInt8} {r : List UInt8} : isBar (c :: r) = ((c.toNat : Int) == 124) := by
  have ht : ((List.range 256).all fun n => ((UInt8.ofNat n == 124) == (((UInt8.ofNat n).toNat : Int) == 124))) = true := by kernel_rfl
  have h := List.all_eq_true.1 ht c.toNat (List.mem_range.2 c.toNat_lt)
  rw [UInt8.ofNat_toNat] at h
  rw [← eq_of_beq h]
  rfl
theorem usedB_mono {LL : List ByteArray} {i j : Nat} (h : i ≤ j) : usedB LL i ≤ usedB LL j := by
  have h1 := usedB_le (LL.take j) i
  unfold usedB at h1 ⊢
  rw [List.take_take, Nat.min_eq_left h] at h1
  exact h1
/-- Whether the line j belongs to a text. -/
def barAt (LL : List ByteArray) (j : Nat) : Bool := match LL[j]? with
  | some l => isBar l.data.toList
  | none => false
theorem barAt_no {LL : List ByteArray} {j : Nat} (h : barAt LL j = false) : ∀ l r, bls (LL.drop j) = l :: r → isBar l = false := by
  intro l r e
  unfold barAt at h
  have h1 : (bls (LL.drop j))[0]? = some l := by rw [e]; rfl
  unfold bls at h1
  rw [List.getElem?_map, List.getElem?_drop, Nat.add_zero] at h1
  cases hx : LL[j]? with
  | none => rw [hx] at h1; cases h1
  | some x =>
    rw [hx] at h h1
    cases h1
    exact h
theorem barAt_yes {LL : List ByteArray} {j : Nat} (h : barAt LL j = true) : ∃ l, LL[j]? = some l ∧ isBar l.data.toList = true := by
  unfold barAt at h
  cases hx : LL[j]? with
  | none => rw [hx] at h; cases h
  | some x => rw [hx] at h; exact ⟨x, rfl, h⟩
theorem drop_bls {LL : List ByteArray} {k : Nat} {ln : ByteArray} (hln : LL[k]? = some ln) : bls (LL.drop k) = ln.data.toList :: bls (LL.drop (k + 1)) := by
  obtain ⟨h1, h2⟩ := List.getElem?_eq_some_iff.1 hln
  rw [List.drop_eq_getElem_cons h1, h2]
  rfl
set_option maxRecDepth 100000 in
set_option maxHeartbeats 12800000 in
theorem rParse_any (text : ByteArray) (w : World) (hs : text.size ≤ 100000000) : Calls Tryz.prog 24 #[.string text] w (RParsePost w (parseS text.data.toList)) := by
  have HS := Lib.hid hs
  clear hs
  go_enter Tryz.func24, Tryz.ntmps24
  go_upto_region 1 with fail
  refine world_is (P := fun W => Code.wp _ _ _ _ W) (fun W0 hW0 => ?_)
  have B0 : Hid (Below w.heap.size w W0) := by unfold Hid; rw [← hW0]; exact (Below.refl _ _).alloc (Nat.le_refl _) _
  have RA0 : Hid (Blk W0 w.heap.size 43 #[.slice none 0 0, .slice none 0 0, .int .i64 0, .int .i64 0]) := by unfold Hid; rw [← hW0]; exact Blk.new _ _ _
  obtain ⟨ra, era⟩ : ∃ g, w.heap.size = g := ⟨_, rfl⟩
  have hra : Hid (w.heap.size ≤ ra) := Nat.le_of_eq era
  rw [era] at RA0 ⊢
  clear hW0 era
  go_upto_region 2 with fail
  refine world_is (P := fun W => Code.wp _ _ _ _ W) (fun W1 hW1 => ?_)
  have hB1 : Below W0.heap.size W0 W1 := by rw [← hW1]; exact (Below.refl _ _).alloc (Nat.le_refl _) _
  have B1 := Lib.hid (B0.out.trans (hB1.mono B0.out.size))
  have RA1 := Lib.hid (RA0.out.below hB1 RA0.out.lt)
  have SB1 : Hid (Blk W1 W0.heap.size 25 #[.slice none 0 0, .slice none 0 0]) := by unfold Hid; rw [← hW1]; exact Blk.new _ _ _
  have hsr : Hid (W0.heap.size ≠ ra) := Nat.ne_of_gt RA0.out.lt
  have hwsb : Hid (w.heap.size ≤ W0.heap.size) := B0.out.size
  obtain ⟨sb, esb⟩ : ∃ g, W0.heap.size = g := ⟨_, rfl⟩
  rw [esb] at SB1 hsr hwsb ⊢
  clear hW1 esb hB1 B0 RA0
  have HSpH := Lib.hid (rsplit_any text 10 W1 HS.out)
  go_wp2_with fail
  refine HSpH.out.mono ?_
  rintro e W2 ⟨A0, C0, LL, rfl, hbytes, hrow, hB2⟩
  have HIH := Lib.hid (linfo_of hbytes)
  obtain ⟨K, hK⟩ : ∃ K, (partsB 10 text.data.toList).length = K := ⟨_, rfl⟩
  rw [hK] at hrow ⊢
  have hllH : Hid (LL.length = K) := by unfold Hid; rw [← hK, ← hbytes, bls_len]
  have hK8 : K ≤ 100000001 := by rw [← hllH.out]; have := HIH.out.len; have := HS.out; omega
  have B2 := Lib.hid (B1.out.trans (hB2.mono B1.out.size))
  have RA2 := Lib.hid (RA1.out.below hB2 RA1.out.lt)
  have SB2 := Lib.hid (SB1.out.below hB2 SB1.out.lt)
  obtain ⟨lb, cur, hA0, hlb1, LB2, hcur⟩ : ∃ lb cur, A0 = some ⟨lb, 0, none⟩ ∧ W1.heap.size ≤ lb ∧ Blk W2 lb 9 cur ∧ cur.toList.take (K * 1) = strsC LL := by
    rcases hrow.2 with ⟨_, hx⟩ | ⟨g, cap, cur, hv, hb, hg, h1, h2, h3, h4⟩
    · exfalso
      have h0 : LL = [] := List.eq_nil_of_length_eq_zero (by rw [hllH.out]; exact hx)
      rw [h0] at hbytes
      exact partsB_ne _ _ hbytes.symm
    · obtain ⟨rfl, _, _⟩ := Value.slice.inj hv
      exact ⟨g, cur, rfl, hb, hg, h4⟩
  subst hA0
  have LB2 := Lib.hid LB2
  have hcurH := Lib.hid hcur
  have hls : Hid (lb ≠ sb) := Nat.ne_of_gt (Nat.lt_of_lt_of_le SB1.out.lt hlb1)
  obtain ⟨B, eB⟩ : ∃ B, W2.heap.size = B := ⟨_, rfl⟩
  have hlB : Hid (lb < B) := by unfold Hid; rw [← eB]; exact LB2.out.lt
  have hsB : Hid (sb < B) := by unfold Hid; rw [← eB]; exact SB2.out.lt
  have hrB : Hid (ra < B) := by unfold Hid; rw [← eB]; exact RA2.out.lt
  have hwB : Hid (w.heap.size ≤ B) := by unfold Hid; rw [← eB]; exact B2.out.size
  have hBW2 : Hid (B ≤ W2.heap.size) := Nat.le_of_eq eB.symm
  have hlr : Hid (lb ≠ ra) := Nat.ne_of_gt (Nat.lt_of_lt_of_le RA1.out.lt hlb1)
  have P2 : Hid (PSt W2 B sb noScr (.slice none 0 0) (.slice none 0 0) []) := ⟨SB2.out, World.ownsRow_nil _ _ _ _, World.ownsRow_nil _ _ _ _, rfl, fun i x u h => by cases h⟩
  clear eB hB2 B1 RA1 SB1 SB2 hbytes hrow hK hcur hlb1 HSpH
  go_wp2_with fail
  go_loopw [5] (fun v5 wr => ∃ (k : Nat) (e : Bool) (s : Scr) (vt vs : Value) (us : List Value), v5 = .int .i64 (k : Int) ∧ k ≤ K ∧ s.texts.length ≤ k ∧ s.steps.length ≤ k ∧
    Hid (parseS text.data.toList = readL (bls (LL.drop k)) k s false e) ∧ Hid (∀ t ∈ s.texts, t.size ≤ usedB LL k) ∧ Hid (∀ x ∈ s.steps, StpIn x) ∧
    Hid (PSt wr B sb s vt vs us) ∧ Hid (Blk wr ra 43 #[.slice none 0 0, .slice none 0 0, .int .i64 0, .int .i64 0]) ∧ Hid (Blk wr lb 9 cur) ∧ Hid (Below w.heap.size w wr) ∧ Hid (B ≤ wr.heap.size)) (fun v5 _ => K - (intOf v5).toNat)
  case atStart => exact ⟨0, false, noScr, _, _, [], rfl, Nat.zero_le _, Nat.le_refl _, Nat.le_refl _, by unfold Hid parseS; rw [List.drop_zero, HIH.out.bytes], fun t h => (by cases h), fun x h => (by cases h), P2.out, RA2.out, LB2.out, B2.out, hBW2.out⟩
  case round =>
  obtain ⟨k, e, s, vt, vs, us, rfl, hk, htl, hsl, hR, hT, hSI, P3, RA3, LB3, B3, hB3⟩ := hrel
  obtain ⟨w3, hw3⟩ : ∃ x, x = wr := ⟨_, rfl⟩
  subst hw3
  clear P2 RA2 LB2 B2 hBW2
  have hused := usedB_le LL k
  rw [HIH.out.used] at hused
  have hSb : Hid (∀ t ∈ s.texts, t.size ≤ 100000001) := fun t ht => by have := hT.out t ht; have := HS.out; omega
  clear hused
  by_cases hlt : k < K
  case neg =>
    have d1 : decide (k < K) = false := decide_eq_false hlt
    have d2 : decide ((k : Int) < (K : Int)) = false := decide_eq_false (by omega)
    have hend : LL.drop k = [] := List.drop_eq_nil_of_le (by rw [hllH.out]; omega)
    have hF : Hid (parseS text.data.toList = if (checkS s).2 = 0 then ⟨s, 0, 0⟩ else ⟨noScr, 0, (checkS s).2⟩) := by
      unfold Hid
      rw [hR.out, hend]
      rfl
    have hsi : Hid (ScrIn s) := ⟨by omega, by omega, fun t ht => by have := hSb.out t ht; omega, hSI.out⟩
    have hC := rCheck_any s (.agg #[vt, vs]) w3.heap.size w3 P3.out.scr (Nat.le_refl _) hsi.out
    unfold CheckPost at hC
    obtain ⟨C, hCC⟩ : ∃ C, checkS s = C := ⟨_, rfl⟩
    rw [hCC] at hC hF
    have hCH := Lib.hid hC
    have s0 := P3.out.blk.cell 0
    have s1 := P3.out.blk.cell 1
    obtain ⟨At, Ct, evt⟩ := own_slice P3.out.txt
    obtain ⟨As, Cs, evs⟩ := own_slice P3.out.stp
    subst evt evs
    clear hlt hend hC hCC hR
    go_wp2_with fail
    refine hCH.out.mono ?_
    rintro e' w4 ⟨rfl, hB4⟩
    have P4 := Lib.hid (P3.out.below hB4)
    have RA4 := Lib.hid (RA3.out.below hB4 RA3.out.lt)
    have B4 := Lib.hid (B3.out.trans (hB4.mono B3.out.size))
    clear hB4 s0 s1
    by_cases hc0 : C.2 = 0
    · have d5 : (C.2 != 0) = false := by rw [hc0]; rfl
      have hG : Hid (parseS text.data.toList = ⟨s, 0, 0⟩) := by unfold Hid; rw [hF.out, if_pos hc0]
      have s0 := P4.out.blk.cell 0
      have s1 := P4.out.blk.cell 1
      clear hc0
      have r0 := RA4.out.cell 0
      have r1 := RA4.out.cell 1
      have r2 := RA4.out.cell 2
      have r3 := RA4.out.cell 3
      have f0 := RA4.out.frozen 0
      have f1 := RA4.out.frozen 1
      have f2 := RA4.out.frozen 2
      have f3 := RA4.out.frozen 3
      go_wp2_with fail
      (try rw [Exit.noGoto_ret])
      rw [hG.out]
      refine bodyPost_ret (results_c1 (P := Tryz.prog) rfl _ _ ra 43 #[.slice At s.texts.length Ct, .slice As s.steps.length Cs, .int .i64 0, .int .i64 0] _ rfl ((((RA4.out.set_ 0 _).set_ 1 _).set_ 2 _).set_ 3 _) Tryz.underlying43 rfl (by kernel_rfl)) rfl ?_
      have P5 := P4.out.other RA4.out (by decide) (by decide) (by decide) (Ne.symm hsr.out) 0 (.slice At s.texts.length Ct)
      have P6 := P5.other (RA4.out.set_ 0 _) (by decide) (by decide) (by decide) (Ne.symm hsr.out) 1 (.slice As s.steps.length Cs)
      have P7 := P6.other ((RA4.out.set_ 0 _).set_ 1 _) (by decide) (by decide) (by decide) (Ne.symm hsr.out) 2 (.int .i64 0)
      have P8 := P7.other (((RA4.out.set_ 0 _).set_ 1 _).set_ 2 _) (by decide) (by decide) (by decide) (Ne.symm hsr.out) 3 (.int .i64 0)
      exact ⟨_, _, rfl, P8.scr, ((((B4.out).setCell (p := ⟨ra, 0, none⟩) hra.out _).setCell (p := ⟨ra, 1, none⟩) hra.out _).setCell (p := ⟨ra, 2, none⟩) hra.out _).setCell (p := ⟨ra, 3, none⟩) hra.out _⟩
    · have d5 : (C.2 != 0) = true := by rw [bne_iff_ne]; exact hc0
      have hG : Hid (parseS text.data.toList = ⟨noScr, 0, C.2⟩) := by unfold Hid; rw [hF.out, if_neg hc0]
      clear hc0
      have r0 := RA4.out.cell 0
      have r1 := RA4.out.cell 1
      have r2 := RA4.out.cell 2
      have r3 := RA4.out.cell 3
      have f0 := RA4.out.frozen 0
      have f1 := RA4.out.frozen 1
      have f2 := RA4.out.frozen 2
      have f3 := RA4.out.frozen 3
      go_wp2_with fail
      (try rw [Exit.noGoto_ret])
      rw [hG.out]
      exact bodyPost_ret (results_c1 (P := Tryz.prog) rfl _ _ ra 43 #[.slice none 0 0, .slice none 0 0, .int .i64 (0), .int .i64 C.2] _ rfl ((((RA4.out.set_ 0 _).set_ 1 _).set_ 2 _).set_ 3 _) Tryz.underlying43 rfl (by kernel_rfl)) rfl (rpost_no (((((B4.out).setCell (p := ⟨ra, 0, none⟩) hra.out _).setCell (p := ⟨ra, 1, none⟩) hra.out _).setCell (p := ⟨ra, 2, none⟩) hra.out _).setCell (p := ⟨ra, 3, none⟩) hra.out _))
  case pos =>
  have d1 : decide (k < K) = true := decide_eq_true hlt
  have d2 : decide ((k : Int) < (K : Int)) = true := decide_eq_true (by omega)
  obtain ⟨ln, hln⟩ : ∃ l, LL[k]? = some l := ⟨_, List.getElem?_eq_getElem (by rw [hllH.out]; exact hlt)⟩
  have hcl : Hid (cur[k]? = some (.string ln)) := cur_at hcurH.out hln
  have k0 : w3.cell? ⟨lb, k, none⟩ = some (.string ln) := by rw [LB3.out.cell k]; exact hcl.out
  have hun := usedB_next hln
  have hu1 := usedB_le LL (k + 1)
  rw [HIH.out.used] at hu1
  have hls8 : ln.size ≤ 100000000 := by have := HS.out; omega
  have hR1 := hR.out
  rw [drop_bls hln] at hR1
  obtain ⟨rest, hrest⟩ : ∃ r, bls (LL.drop (k + 1)) = r := ⟨_, rfl⟩
  rw [hrest] at hR1
  have hRH := Lib.hid hR1
  have hrestH := Lib.hid hrest
  have hunH := Lib.hid hun
  have hT' : Hid (∀ t ∈ s.texts, t.size ≤ usedB LL (k + 1)) := fun t ht => by have := hT.out t ht; omega
  have q0 : (0 : Int) ≤ (k : Int) := by omega
  have q1 : (k : Int) < (K : Int) := by omega
  have hlsH := Lib.hid hls8
  have hltH := Lib.hid hlt
  have hslH := Lib.hid hsl
  have htlH := Lib.hid htl
  have HW := Lib.hid (rwords_any ln w3 hls8)
  clear hln hun hu1 hls8 hR1 hrest hlt hR
  go_wp2_with fail
  refine HW.out.mono ?_
  rintro e' w4 ⟨A, c6, WL, rfl, hwd, hRow4, hbel4⟩
  obtain ⟨NW, hNW⟩ : ∃ N, (wordsB ln.data.toList).length = N := ⟨_, rfl⟩
  rw [hNW] at hRow4 ⊢
  have hNWH : Hid (WL.length = NW) := by unfold Hid; rw [← hNW, ← hwd, bls_len]
  have HR4 := Lib.hid hRow4
  have hwdH := Lib.hid hwd
  have P4 := Lib.hid (P3.out.below hbel4)
  have RA4 := Lib.hid (RA3.out.below hbel4 RA3.out.lt)
  have LB4 := Lib.hid (LB3.out.below hbel4 LB3.out.lt)
  have B4 := Lib.hid (B3.out.trans (hbel4.mono B3.out.size))
  have hB4 : Hid (B ≤ w4.heap.size) := Nat.le_trans hB3.out hbel4.size
  clear P3 RA3 LB3 B3 hB3
  have k0 : w4.cell? ⟨lb, k, none⟩ = some (.string ln) := by rw [LB4.out.cell k]; exact hcl.out
  clear hRow4 hbel4 HW hwd hNW
  cases hcr : ln.data.toList with
  | nil =>
    have e1 : (ln.toList == []) = true := by rw [ByteArray.toList_eq, hcr]; rfl
    have e1' : (ln.toList != []) = false := by rw [ByteArray.toList_eq, hcr]; rfl
    have hbb : isBar ln.data.toList = false := by rw [hcr]; rfl
    have hv : isVoid ln.data.toList = true := by rw [hcr]; rfl
    have hF : Hid (parseS text.data.toList = readL rest (k + 1) s false e) := by unfold Hid; rw [hRH.out, readL_void hbb rfl hv]
    clear hcr hbb hv
    go_wp2_with fail
    go_roundw
    case rel =>
      refine ⟨k + 1, e, s, _, _, us, by go_num, hltH.out, Nat.le_succ_of_le htlH.out, Nat.le_succ_of_le hslH.out, ?_, hT'.out, hSI.out, P4.out, RA4.out, LB4.out, B4.out, hB4.out⟩
      unfold Hid
      rw [hrestH.out]
      exact hF.out
    case measure => have := hltH.out; simp [intOf]; omega
  | cons c r =>
  have e1 : (ln.toList == []) = false := by rw [ByteArray.toList_eq, hcr]; rfl
  have e1' : (ln.toList != []) = true := by rw [ByteArray.toList_eq, hcr]; rfl
  have i0 : ∀ wx, (Instr.index 9 (.string ln) (.int .i64 0)).run Tryz.prog wx = .ok (.int .u8 (c.toNat : Int)) wx := str_index (k := 0) (by rw [hcr]; rfl)
  have hbar := head_bar (c := c) (r := r)
  rw [← hcr] at hbar
  by_cases hb : ((c.toNat : Int) == 124) = true
  case pos =>
    have hF : Hid (parseS text.data.toList = ⟨noScr, k + 1, 3⟩) := by unfold Hid; rw [hRH.out, readL_barE (hbar.trans hb)]
    clear hcr hbar
    have r0 := RA4.out.cell 0
    have r1 := RA4.out.cell 1
    have r2 := RA4.out.cell 2
    have r3 := RA4.out.cell 3
    have f0 := RA4.out.frozen 0
    have f1 := RA4.out.frozen 1
    have f2 := RA4.out.frozen 2
    have f3 := RA4.out.frozen 3
    go_wp2_with fail
    (try rw [Exit.noGoto_ret])
    rw [hF.out]
    exact bodyPost_ret (results_c1 (P := Tryz.prog) rfl _ _ ra 43 #[.slice none 0 0, .slice none 0 0, .int .i64 ((k : Int) + 1), .int .i64 3] _ rfl ((((RA4.out.set_ 0 _).set_ 1 _).set_ 2 _).set_ 3 _) Tryz.underlying43 rfl (by kernel_rfl)) rfl (rpost_no (((((B4.out).setCell (p := ⟨ra, 0, none⟩) hra.out _).setCell (p := ⟨ra, 1, none⟩) hra.out _).setCell (p := ⟨ra, 2, none⟩) hra.out _).setCell (p := ⟨ra, 3, none⟩) hra.out _))
  case neg =>
  have hb2 : ((c.toNat : Int) == 124) = false := by cases h : ((c.toNat : Int) == 124) with
    | true => exact absurd h hb
    | false => rfl
  have hbbH : Hid (isBar ln.data.toList = false) := hbar.trans hb2
  clear hbar hb
  by_cases c35 : c = 35
  case pos =>
    have e2 : ((c.toNat : Int) == 35) = true := by rw [c35]; rfl
    have hv : isVoid ln.data.toList = true := by
      unfold isVoid
      rw [hcr, c35]
      simp
    have hF : Hid (parseS text.data.toList = readL rest (k + 1) s false e) := by unfold Hid; rw [hRH.out, readL_void hbbH.out rfl hv]
    clear hv hcr c35
    go_wp2_with fail
    go_roundw
    case rel =>
      refine ⟨k + 1, e, s, _, _, us, by go_num, hltH.out, Nat.le_succ_of_le htlH.out, Nat.le_succ_of_le hslH.out, ?_, hT'.out, hSI.out, P4.out, RA4.out, LB4.out, B4.out, hB4.out⟩
      unfold Hid
      rw [hrestH.out]
      exact hF.out
    case measure => have := hltH.out; simp [intOf]; omega
  case neg =>
  have e2 : ((c.toNat : Int) == 35) = false := by
    rw [beq_eq_false_iff_ne]
    intro h
    exact c35 (UInt8.toNat_inj.1 (by show c.toNat = 35; omega))
  by_cases hw0 : NW = 0
  case pos =>
    subst hw0
    have hv : isVoid ln.data.toList = true := by
      unfold isVoid
      rw [← hwdH.out, List.eq_nil_of_length_eq_zero hNWH.out]
      rfl
    have hF : Hid (parseS text.data.toList = readL rest (k + 1) s false e) := by unfold Hid; rw [hRH.out, readL_void hbbH.out rfl hv]
    clear hv hcr c35
    go_wp2_with fail
    go_roundw
    case rel =>
      refine ⟨k + 1, e, s, _, _, us, by go_num, hltH.out, Nat.le_succ_of_le htlH.out, Nat.le_succ_of_le hslH.out, ?_, hT'.out, hSI.out, P4.out, RA4.out, LB4.out, B4.out, hB4.out⟩
      unfold Hid
      rw [hrestH.out]
      exact hF.out
    case measure => have := hltH.out; simp [intOf]; omega
  case neg =>
  have n0 : ((NW : Int) == 0) = false := by rw [beq_eq_false_iff_ne]; omega
  have n0' : (NW == 0) = false := by rw [beq_eq_false_iff_ne]; omega
  obtain ⟨b, rfl⟩ : ∃ b, A = some ⟨b, 0, none⟩ := by
    rcases HR4.out.2 with ⟨hv, _⟩ | ⟨g, cap, cu, hv, _⟩
    · exact absurd (Value.slice.inj hv).2.1 hw0
    · exact ⟨g, (Value.slice.inj hv).1⟩
  have hwe : (wordsB ln.data.toList).isEmpty = false := by
    rw [← hwdH.out]
    cases h : WL with
    | nil => rw [h] at hNWH; exact absurd hNWH.out.symm hw0
    | cons a b => rfl
  have hv : Hid (isVoid ln.data.toList = false) := by
    unfold Hid isVoid
    rw [hwe, hcr]
    show (some c == some 35) = false
    rw [beq_eq_false_iff_ne]
    intro h
    cases h
    exact c35 rfl
  have hw0H := Lib.hid hw0
  have hAlt : Hid (b < w4.heap.size) := (HR4.out.lt b rfl).2
  clear hcr hwe c35 hw0
  go_upto_region 10 with fail
  clear e2 e1 e1' i0 hb2
  obtain ⟨tb, htb⟩ : ∃ b, isTextL ln.data.toList = b := ⟨_, rfl⟩
  have htbH := Lib.hid htb
  clear htb
  go_cut [68] from 15 to 147 (fun v wx => v = .bool tb ∧ wx = w4)
  case first =>
    by_cases hn1 : NW = 1
    case pos =>
      subst hn1
      obtain ⟨z, hz⟩ : ∃ z, WL = [z] := List.length_eq_one_iff.1 hNWH.out
      have kz : w4.cell? ⟨b, 0, none⟩ = some (.string z) := by
        have := HR4.out.cells (g := b) rfl 0 (.string z) (by rw [hz]; rfl)
        rwa [Addr.add_lit, Nat.zero_add] at this
      have e4 : (z.toList == [116, 101, 120, 116]) = tb := by
        rw [← htbH.out]
        unfold isTextL
        rw [← hwdH.out, hz, ByteArray.toList_eq]
        show _ = ([z.data.toList] == [[116, 101, 120, 116]])
        rw [Bool.eq_iff_iff, beq_iff_eq, beq_iff_eq]
        exact ⟨fun h => by rw [h], fun h => (List.cons.inj h).1⟩
      have e3 : (z.toList == (⟨#[116, 101, 120, 116]⟩ : ByteArray).toList) = tb := by
        rw [show (⟨#[116, 101, 120, 116]⟩ : ByteArray).toList = [116, 101, 120, 116] by rw [ByteArray.toList_eq]]
        exact e4
      clear hz
      go_wp2_with fail
      go_meet
      exact ⟨by first | rfl | rw [e4] | rw [e3], rfl⟩
    case neg =>
      have n1 : ((NW : Int) == 1) = false := by rw [beq_eq_false_iff_ne]; omega
      have n1' : (NW == 1) = false := by rw [beq_eq_false_iff_ne]; omega
      have e3 : Hid (tb = false) := by
        unfold Hid
        rw [← htbH.out]
        unfold isTextL
        rw [beq_eq_false_iff_ne, ← hwdH.out]
        intro h
        have h2 := congrArg List.length h
        rw [bls_len, hNWH.out] at h2
        exact hn1 h2
      clear hn1
      go_wp2_with fail
      go_meet
      exact ⟨by rw [e3.out], rfl⟩
  case rest =>
  obtain ⟨rfl, hww⟩ := hcut
  rw [hww]
  clear hww n0 n0'
  cases tb
  case true =>
    have hF0 : Hid (parseS text.data.toList = readL rest (k + 1) ⟨s.texts ++ [⟨#[]⟩], s.steps⟩ true true) := by unfold Hid; rw [hRH.out, readL_text hbbH.out rfl hv.out htbH.out]
    clear HR4 hAlt
    go_wp2_with fail
    go_loopw [7, 8] (fun v7 v8 wr => ∃ (n : Nat) (t : ByteArray), v7 = .int .i64 (n : Int) ∧ v8 = .string t ∧ k + 1 + n ≤ K ∧ Hid (n = 0 → t = ⟨#[]⟩) ∧ Hid (t.size ≤ usedB LL (k + 1 + n)) ∧ Hid (parseS text.data.toList = readL (bls (LL.drop (k + 1 + n))) (k + 1 + n) ⟨s.texts ++ [t], s.steps⟩ true (decide (n = 0))) ∧ wr = w4) (fun v7 _ _ => K - (intOf v7).toNat)
    case atStart => exact ⟨0, ⟨#[]⟩, rfl, rfl, hltH.out, fun _ => rfl, Nat.zero_le _, by unfold Hid; rw [Nat.add_zero, hrestH.out]; exact hF0.out, rfl⟩
    case round =>
    obtain ⟨n, t, rfl, rfl, hnK, ht0, htu, hPF, hww⟩ := hrel
    obtain rfl : w4 = wr := hww.symm
    have hused := usedB_le LL (k + 1 + n)
    rw [HIH.out.used] at hused
    have htb8 : Hid (t.size ≤ 100000001) := by unfold Hid; have := htu.out; have := HS.out; omega
    clear hused
    obtain ⟨q, hq⟩ : ∃ q, k + 1 + n = q := ⟨_, rfl⟩
    have hqi : (k : Int) + 1 + (n : Int) = (q : Int) := by omega
    have hqH := Lib.hid hq
    have hnK2 := hnK
    rw [hq] at hnK2 htu hPF
    have q2 : (0 : Int) ≤ (q : Int) := by omega
    have hmono : Hid (usedB LL (k + 1) ≤ usedB LL q) := usedB_mono (by omega)
    obtain ⟨bb, hbb⟩ : ∃ x, barAt LL q = x := ⟨_, rfl⟩
    have hbbQ := Lib.hid hbb
    clear hbb hnK hq
    go_upto_region 13 with fail
    go_cut [97] from 69 to 113 (fun v wx => v = .bool bb ∧ wx = w4)
    case first =>
      by_cases hqK : q < K
      case pos =>
        have d3 : decide (q < K) = true := decide_eq_true hqK
        have d4 : decide ((q : Int) < (K : Int)) = true := decide_eq_true (by omega)
        have q3 : (q : Int) < (K : Int) := by omega
        obtain ⟨l2, hl2⟩ : ∃ l, LL[q]? = some l := ⟨_, List.getElem?_eq_getElem (by rw [hllH.out]; exact hqK)⟩
        have k2 : w4.cell? ⟨lb, q, none⟩ = some (.string l2) := by rw [LB4.out.cell q]; exact cur_at hcurH.out hl2
        have hbq : isBar l2.data.toList = bb := by rw [← hbbQ.out]; unfold barAt; rw [hl2]
        have hsz : l2.size = l2.data.toList.length := Array.length_toList.symm
        cases hl2r : l2.data.toList with
        | nil =>
          rw [hl2r] at hbq hsz
          have d7 : decide (0 < l2.size) = false := decide_eq_false (by rw [hsz]; exact Nat.lt_irrefl 0)
          have d8 : decide ((0 : Int) < (l2.size : Int)) = false := decide_eq_false (by rw [hsz]; exact Int.lt_irrefl 0)
          have e5 := Lib.hid hbq
          clear hl2r hbq hl2 hqK hsz
          go_wp2_with fail
          go_meet
          exact ⟨by rw [← e5.out]; rfl, rfl⟩
        | cons c2 r2 =>
          rw [hl2r] at hbq hsz
          have hs0 : 0 < l2.size := by rw [hsz, List.length_cons]; exact Nat.succ_pos _
          have d7 : decide (0 < l2.size) = true := decide_eq_true hs0
          have d8 : decide ((0 : Int) < (l2.size : Int)) = true := decide_eq_true (by omega)
          have i2 : ∀ wx, (Instr.index 9 (.string l2) (.int .i64 0)).run Tryz.prog wx = .ok (.int .u8 (c2.toNat : Int)) wx := str_index (k := 0) (by rw [hl2r]; rfl)
          have e5 : Hid (((c2.toNat : Int) == 124) = bb) := head_bar.symm.trans hbq
          clear hl2r hbq hl2 hqK hsz hs0
          go_wp2_with fail
          go_meet
          exact ⟨by rw [← e5.out], rfl⟩
      case neg =>
        have d3 : decide (q < K) = false := decide_eq_false hqK
        have d4 : decide ((q : Int) < (K : Int)) = false := decide_eq_false (by omega)
        have e5 : Hid (false = bb) := by
          unfold Hid
          rw [← hbbQ.out]
          unfold barAt
          rw [List.getElem?_eq_none (by rw [hllH.out]; omega)]
        clear hqK
        go_wp2_with fail
        go_meet
        exact ⟨by rw [← e5.out], rfl⟩
    case rest =>
    obtain ⟨rfl, hww⟩ := hcut
    rw [hww]
    clear hww
    cases bb
    case true =>
      obtain ⟨l2, hl2, hl2b⟩ := barAt_yes hbbQ.out
      have hqK : q < K := by
        have h := (List.getElem?_eq_some_iff.1 hl2).1
        rw [hllH.out] at h
        exact h
      have q3 : (q : Int) < (K : Int) := by omega
      have k2 : w4.cell? ⟨lb, q, none⟩ = some (.string l2) := by rw [LB4.out.cell q]; exact cur_at hcurH.out hl2
      have hl21 : Hid (1 ≤ l2.size) := bar_size hl2b
      have aS := str_from l2 1 hl21.out
      rw [show ((1 : Nat) : Int) = 1 from rfl] at aS
      obtain ⟨tl, htl1⟩ : ∃ x, l2.extract 1 l2.size = x := ⟨_, rfl⟩
      rw [htl1] at aS
      have htlL : Hid (strT l2 = tl.data.toList ∧ tl.size + 1 = l2.size) := by rw [← htl1]; exact tail_bytes hl21.out
      have hun2 := Lib.hid (usedB_next hl2)
      have hu2 := usedB_le LL (q + 1)
      rw [HIH.out.used] at hu2
      have hsz2 : Hid (t.size + 1 + tl.size ≤ usedB LL (q + 1) ∧ t.size + 1 + tl.size ≤ 200000000) := by
        have h1 := hun2.out
        have h2 := htlL.out.2
        have h3 := htu.out
        have h4 := HS.out
        exact ⟨by omega, by omega⟩
      have hqs : Hid (k + 1 + (n + 1) = q + 1) := by unfold Hid; have := hqH.out; omega
      have hnlt : Hid (n < K) := by unfold Hid; have := hqH.out; omega
      have hqKH := Lib.hid hqK
      have hPF1 := hPF.out
      rw [drop_bls hl2, readL_bar hl2b] at hPF1
      have hPF1 := Lib.hid hPF1
      clear htl1 hl2 hl2b hu2 hqK
      by_cases hn0 : n = 0
      case pos =>
        have d6 : decide (0 < n) = false := decide_eq_false (by omega)
        have d6' : decide ((0 : Int) < (n : Int)) = false := decide_eq_false (by omega)
        obtain rfl := ht0.out hn0
        obtain ⟨U, hU⟩ : ∃ U, (⟨#[]⟩ : ByteArray) ++ tl = U := ⟨_, rfl⟩
        have aU : ∀ wx, (Op.stringOp .add ⟨#[]⟩ tl).run Tryz.prog wx = .ok (.string U) wx := fun wx => by
          rw [← hU]
          exact run_string_add_sum wx _ _ (by have := hsz2.out.2; omega)
        have hUs : Hid (U.size ≤ usedB LL (q + 1)) := by unfold Hid; rw [← hU, ByteArray.size_append]; have := hsz2.out.1; omega
        have hF : Hid (parseS text.data.toList = readL (bls (LL.drop (q + 1))) (q + 1) ⟨s.texts ++ [U], s.steps⟩ true false) := by
          unfold Hid
          rw [hPF1.out, decide_eq_true hn0, addLine_app, add_first htlL.out.1, hU]
        clear hU hn0 hPF1
        go_wp2_with fail
        go_roundw
        case rel => exact ⟨n + 1, U, by go_num, rfl, by rw [hqs.out]; exact hqKH.out, fun h => absurd h (Nat.succ_ne_zero _), by rw [hqs.out]; exact hUs.out, by rw [hqs.out]; exact hF.out, (by first | rfl | trivial)⟩
        case measure => have := hnlt.out; simp [intOf]; omega
      case neg =>
        have d6 : decide (0 < n) = true := decide_eq_true (by omega)
        have d6' : decide ((0 : Int) < (n : Int)) = true := decide_eq_true (by omega)
        obtain ⟨T, hTe⟩ : ∃ T, t ++ (⟨#[10]⟩ : ByteArray) = T := ⟨_, rfl⟩
        have hTs : Hid (T.size = t.size + 1) := by unfold Hid; rw [← hTe, ByteArray.size_append]; rfl
        have aT : ∀ wx, (Op.stringOp .add t ⟨#[10]⟩).run Tryz.prog wx = .ok (.string T) wx := fun wx => by
          rw [← hTe]
          exact run_string_add_sum wx _ _ (by show t.size + 1 ≤ _; have := htb8.out; omega)
        obtain ⟨U, hU⟩ : ∃ U, T ++ tl = U := ⟨_, rfl⟩
        have aU : ∀ wx, (Op.stringOp .add T tl).run Tryz.prog wx = .ok (.string U) wx := fun wx => by
          rw [← hU]
          exact run_string_add_sum wx _ _ (by have := hsz2.out.2; have := hTs.out; omega)
        have hUs : Hid (U.size ≤ usedB LL (q + 1)) := by unfold Hid; rw [← hU, ByteArray.size_append]; have := hsz2.out.1; have := hTs.out; omega
        have hF : Hid (parseS text.data.toList = readL (bls (LL.drop (q + 1))) (q + 1) ⟨s.texts ++ [U], s.steps⟩ true false) := by
          unfold Hid
          rw [hPF1.out, decide_eq_false hn0, addLine_app, add_more htlL.out.1, hTe, hU]
        clear hU hTe hn0 hPF1
        go_wp2_with fail
        go_roundw
        case rel => exact ⟨n + 1, U, by go_num, rfl, by rw [hqs.out]; exact hqKH.out, fun h => absurd h (Nat.succ_ne_zero _), by rw [hqs.out]; exact hUs.out, by rw [hqs.out]; exact hF.out, (by first | rfl | trivial)⟩
        case measure => have := hnlt.out; simp [intOf]; omega
    case false =>
      have hno := Lib.hid (barAt_no hbbQ.out)
      by_cases hn0 : n = 0
      case pos =>
        have e7 : ((n : Int) == 0) = true := by rw [beq_iff_eq]; omega
        have e7' : (n == 0) = true := by rw [beq_iff_eq]; omega
        have hF : Hid (parseS text.data.toList = ⟨noScr, k + 1, 3⟩) := by
          unfold Hid
          rw [hPF.out, decide_eq_true hn0, readL_end0 hno.out, ← hqH.out, hn0]
        clear hn0
        have r0 := RA4.out.cell 0
        have r1 := RA4.out.cell 1
        have r2 := RA4.out.cell 2
        have r3 := RA4.out.cell 3
        have f0 := RA4.out.frozen 0
        have f1 := RA4.out.frozen 1
        have f2 := RA4.out.frozen 2
        have f3 := RA4.out.frozen 3
        go_wp2_with fail
        (try rw [Exit.noGoto_ret])
        rw [hF.out]
        exact bodyPost_ret (results_c1 (P := Tryz.prog) rfl _ _ ra 43 #[.slice none 0 0, .slice none 0 0, .int .i64 ((k : Int) + 1), .int .i64 3] _ rfl ((((RA4.out.set_ 0 _).set_ 1 _).set_ 2 _).set_ 3 _) Tryz.underlying43 rfl (by kernel_rfl)) rfl (rpost_no (((((B4.out).setCell (p := ⟨ra, 0, none⟩) hra.out _).setCell (p := ⟨ra, 1, none⟩) hra.out _).setCell (p := ⟨ra, 2, none⟩) hra.out _).setCell (p := ⟨ra, 3, none⟩) hra.out _))
      case neg =>
        have e7 : ((n : Int) == 0) = false := by rw [beq_eq_false_iff_ne]; omega
        have e7' : (n == 0) = false := by rw [beq_eq_false_iff_ne]; omega
        have hF : Hid (parseS text.data.toList = readL (bls (LL.drop q)) q ⟨s.texts ++ [t], s.steps⟩ false false) := by
          unfold Hid
          rw [hPF.out, decide_eq_false hn0, readL_end1 hno.out]
        clear hn0
        have ho1 : ∀ u ∈ (#[Value.string t] : Array Value).toList, u.oneCell' = true := by intro u hu; simp only [List.mem_singleton] at hu; rw [hu]; rfl
        obtain ⟨At, Ct, evt⟩ := own_slice P4.out.txt
        subst evt
        have s0 := P4.out.blk.cell 0
        have hlS : Hid (s.texts.length + 1 ≤ 1000000000) := by unfold Hid; have := htlH.out; omega
        go_upto_region 21 with (refine wp_gpush_list 22 9 (.string ⟨#[]⟩) 1 16 Tryz.underlying22 (by kernel_rfl) rfl (by decide) (by decide) rfl _ _ rfl B (.slice At s.texts.length Ct) s.texts.length (strsC s.texts) rfl P4.out.txt 1 1 #[.string t] rfl rfl ho1 hlS.out hB4.out ?_; intro v9 w9 hP9; obtain ⟨A9, C9, rfl⟩ := own_slice hP9.row; have q9 := (P4.out.blk.grown hP9.grown (Ne.symm (own_blk_ne P4.out.txt P4.out.blk (by decide)))).cell 0; have f9 := (P4.out.blk.grown hP9.grown (Ne.symm (own_blk_ne P4.out.txt P4.out.blk (by decide)))).frozen 0)
        have hrow9 : w9.ownsRow B 9 1 (.slice A9 (s.texts.length + 1) C9) (s.texts ++ [t]).length (strsC (s.texts ++ [t])) := by
          rw [List.length_append, strsC_snoc]
          exact hP9.row
        have P9 := Lib.hid (P4.out.texts hP9.grown hrow9)
        have RA9 := Lib.hid ((RA4.out.grown hP9.grown (Ne.symm (own_blk_ne P4.out.txt RA4.out (by decide)))).other (a := ⟨sb, 0, none⟩) (Ne.symm hsr.out) (.slice A9 (s.texts.length + 1) C9))
        have LB9 := Lib.hid ((LB4.out.grown hP9.grown (own_ne_low P4.out.txt hlB.out)).other (a := ⟨sb, 0, none⟩) hls.out (.slice A9 (s.texts.length + 1) C9))
        have B9 := Lib.hid ((hP9.bel w.heap.size w hwB.out hB4.out B4.out).setCell (p := ⟨sb, 0, none⟩) hwsb.out (.slice A9 (s.texts.length + 1) C9))
        have hB9 := Lib.hid (le_setCell (Nat.le_trans hB4.out hP9.grown.size) ⟨sb, 0, none⟩ (.slice A9 (s.texts.length + 1) C9))
        have htq : Hid ((s.texts ++ [t]).length ≤ q ∧ s.steps.length ≤ q) := by
          unfold Hid
          rw [List.length_append, List.length_singleton]
          have := htlH.out
          have := hslH.out
          have := hqH.out
          exact ⟨by omega, by omega⟩
        have htz : Hid (∀ x ∈ s.texts ++ [t], x.size ≤ usedB LL q) := fun x hx => (List.mem_append.1 hx).elim (fun h => Nat.le_trans (hT'.out x h) hmono.out) (fun h => by rw [List.mem_singleton.1 h]; exact htu.out)
        have hqH2 : Hid (k < q ∧ q ≤ K) := by unfold Hid; have := hqH.out; exact ⟨by omega, hnK2⟩
        clear hP9 hrow9 q9 f9 s0
        go_wp2_with fail
        go_roundw
        case rel =>
          refine ⟨q, false, ⟨s.texts ++ [t], s.steps⟩, _, _, us, by go_num, hqH2.out.2, htq.out.1, htq.out.2, ?_, htz.out, hSI.out, P9.out, RA9.out, LB9.out, B9.out, hB9.out⟩
          unfold Hid
          skip
          exact hF.out
        case measure => have := hltH.out; have := hqH2.out; simp [intOf]; omega
  case false =>
    obtain ⟨z0, rs, hze⟩ : ∃ z rs, WL = z :: rs := by
      cases h : WL with
      | nil => rw [h] at hNWH; exact absurd hNWH.out.symm hw0H.out
      | cons a b => exact ⟨a, b, rfl⟩
    have hwo := words_ok ln.data.toList
    have hlen : ln.data.toList.length = ln.size := Array.length_toList
    have hrl : rs.length + 1 = NW := by rw [← hNWH.out, hze, List.length_cons]
    have hNWb : NW ≤ ln.size + 1 := by
      rw [← hlen, ← hNWH.out]
      have := hwo.2
      rw [← hwdH.out, bls_len] at this
      exact this
    have HSt := rstep_any z0 rs b c6 w4 (fun j z hj => by
        have := HR4.out.cells (g := b) rfl j (.string z) (by rw [hze]; unfold strsC; rw [List.getElem?_map, hj]; rfl)
        rwa [Addr.add_lit, Nat.zero_add] at this) hAlt.out (fun z hz => by
        have hm : z.data.toList ∈ wordsB ln.data.toList := by rw [← hwdH.out, hze]; exact List.mem_map_of_mem hz
        have h1 := hwo.1 _ hm
        have h2 : z.data.toList.length = z.size := Array.length_toList
        rw [hlen] at h1
        refine ⟨fun e => h1.1 (List.eq_nil_of_length_eq_zero (by rw [h2]; exact e)), ?_⟩
        have := hlsH.out
        omega) (by have := hlsH.out; omega)
    rw [← hze, hwdH.out, hrl] at HSt
    have HSH := Lib.hid HSt
    clear HSt hwo hlen hrl hNWb hze
    go_wp2_with fail
    refine HSH.out.mono ?_
    rintro e' w5 ⟨hbel5, hpost⟩
    have hB4k := hB4
    have hsz4 : Hid (B ≤ w4.heap.size) := hB4.out
    have P5 := Lib.hid (P4.out.below hbel5)
    have RA5 := Lib.hid (RA4.out.below hbel5 RA4.out.lt)
    have LB5 := Lib.hid (LB4.out.below hbel5 LB4.out.lt)
    have B5 := Lib.hid (B4.out.trans (hbel5.mono B4.out.size))
    have hB5 : Hid (B ≤ w5.heap.size) := Nat.le_trans hB4.out hbel5.size
    clear P4 RA4 LB4 B4 hB4
    cases hst : stepW (wordsB ln.data.toList) with
    | error c1 =>
      have hpost1 : e' = .returned (.tuple #[.agg #[.int .i64 0, .slice none 0 0, .string ⟨#[]⟩], .int .i64 c1]) := by rw [hst] at hpost; exact hpost
      clear hpost HSH hbel5 HR4
      subst hpost1
      have hF : Hid (parseS text.data.toList = ⟨noScr, k + 1, c1⟩) := by unfold Hid; rw [hRH.out, readL_step hbbH.out rfl hv.out htbH.out, hst]
      have d5 : (c1 != 0) = true := by rw [bne_iff_ne]; exact stepW_err hst
      clear hst
      go_upto_region 23 with fail
      refine world_is (P := fun W => Code.wp _ _ _ _ W) (fun W6 hW6 => ?_)
      have hb6 : Below w5.heap.size w5 W6 := by rw [← hW6]; exact (Below.refl _ _).alloc (Nat.le_refl _) _
      clear hW6
      have P6 := Lib.hid (P5.out.below hb6)
      have RA6 := Lib.hid (RA5.out.below hb6 RA5.out.lt)
      have LB6 := Lib.hid (LB5.out.below hb6 LB5.out.lt)
      have B6 := Lib.hid (B5.out.trans (hb6.mono B5.out.size))
      have hB6 : Hid (B ≤ W6.heap.size) := Nat.le_trans hB5.out hb6.size
      clear P5 RA5 LB5 B5 hB5
      clear hb6
      have r0 := RA6.out.cell 0
      have r1 := RA6.out.cell 1
      have r2 := RA6.out.cell 2
      have r3 := RA6.out.cell 3
      have f0 := RA6.out.frozen 0
      have f1 := RA6.out.frozen 1
      have f2 := RA6.out.frozen 2
      have f3 := RA6.out.frozen 3
      go_wp2_with fail
      (try rw [Exit.noGoto_ret])
      rw [hF.out]
      exact bodyPost_ret (results_c1 (P := Tryz.prog) rfl _ _ ra 43 #[.slice none 0 0, .slice none 0 0, .int .i64 ((k : Int) + 1), .int .i64 c1] _ rfl ((((RA6.out.set_ 0 _).set_ 1 _).set_ 2 _).set_ 3 _) Tryz.underlying43 rfl (by kernel_rfl)) rfl (rpost_no (((((B6.out).setCell (p := ⟨ra, 0, none⟩) hra.out _).setCell (p := ⟨ra, 1, none⟩) hra.out _).setCell (p := ⟨ra, 2, none⟩) hra.out _).setCell (p := ⟨ra, 3, none⟩) hra.out _))
    | ok x =>
      have hpost1 : ∃ va, e' = .returned (.tuple #[.agg #[.int .i64 x.kind, va, .string x.text], .int .i64 0]) ∧ w5.ownsRow w4.heap.size 3 1 va x.args.length (intsC x.args) ∧ x.args.length ≤ 100000000 ∧ x.text.size ≤ 200000000 := by rw [hst] at hpost; exact hpost
      clear hpost HSH hbel5 HR4
      obtain ⟨va, rfl, hra5, hx1, hx2⟩ := hpost1
      have hF : Hid (parseS text.data.toList = readL rest (k + 1) ⟨s.texts, s.steps ++ [x]⟩ false e) := by unfold Hid; rw [hRH.out, readL_step hbbH.out rfl hv.out htbH.out, hst]
      have hin := Lib.hid (stepW_in hst hx1 hx2)
      obtain ⟨Aa, Ca, eva⟩ := own_slice hra5
      subst eva
      have hraH := Lib.hid hra5
      clear hst hra5 hx1 hx2
      go_upto_region 23 with fail
      refine world_is (P := fun W => Code.wp _ _ _ _ W) (fun W6 hW6 => ?_)
      have hb6 : Below w5.heap.size w5 W6 := by rw [← hW6]; exact (Below.refl _ _).alloc (Nat.le_refl _) _
      have X6 : Hid (Blk W6 w5.heap.size 53 #[.int .i64 x.kind, .slice Aa x.args.length Ca, .string x.text]) := by unfold Hid; rw [← hW6]; exact Blk.new _ _ _
      obtain ⟨sx, esx⟩ : ∃ g, w5.heap.size = g := ⟨_, rfl⟩
      rw [esx] at X6 ⊢
      have hra6 : Hid (W6.ownsRow B 3 1 (.slice Aa x.args.length Ca) x.args.length (intsC x.args)) := own_keepB (own_mono hraH.out hB4k.out) hb6
      clear hW6 esx
      have P6 := Lib.hid (P5.out.below hb6)
      have RA6 := Lib.hid (RA5.out.below hb6 RA5.out.lt)
      have LB6 := Lib.hid (LB5.out.below hb6 LB5.out.lt)
      have B6 := Lib.hid (B5.out.trans (hb6.mono B5.out.size))
      have hB6 : Hid (B ≤ W6.heap.size) := Nat.le_trans hB5.out hb6.size
      clear P5 RA5 LB5 B5 hB5
      clear hb6 hraH
      have ho1 : ∀ u ∈ (#[Value.int .i64 x.kind, .slice Aa x.args.length Ca, .string x.text] : Array Value).toList, u.oneCell' = true := by
        intro u hu
        simp only [List.mem_cons, List.not_mem_nil, or_false] at hu
        rcases hu with rfl | rfl | rfl <;> rfl
      obtain ⟨As, Cs, evs⟩ := own_slice P6.out.stp
      subst evs
      have s1 := P6.out.blk.cell 1
      have x0 := X6.out.cell 0
      have x1 := X6.out.cell 1
      have x2 := X6.out.cell 2
      have hlS : Hid (s.steps.length + 1 ≤ 1000000000) := by unfold Hid; have := hslH.out; omega
      go_upto_region 26 with (refine wp_gpush_list 23 53 (.agg #[.int .i64 0, .slice none 0 0, .string ⟨#[]⟩]) 3 48 Tryz.underlying23 (by kernel_rfl) rfl (by decide) (by decide) rfl _ _ rfl B (.slice As s.steps.length Cs) s.steps.length (stepsC s.steps us) rfl P6.out.stp 1 1 #[.int .i64 x.kind, .slice Aa x.args.length Ca, .string x.text] rfl rfl ho1 hlS.out hB6.out ?_; intro v9 w9 hP9; obtain ⟨A9, C9, rfl⟩ := own_slice hP9.row; have q9 := (P6.out.blk.grown hP9.grown (Ne.symm (own_blk_ne P6.out.stp P6.out.blk (by decide)))).cell 1; have f9 := (P6.out.blk.grown hP9.grown (Ne.symm (own_blk_ne P6.out.stp P6.out.blk (by decide)))).frozen 1)
      have P9 := Lib.hid (P6.out.steps hra6.out hP9.grown hP9.row)
      have RA9 := Lib.hid ((RA6.out.grown hP9.grown (Ne.symm (own_blk_ne P6.out.stp RA6.out (by decide)))).other (a := ⟨sb, 1, none⟩) (Ne.symm hsr.out) (.slice A9 (s.steps.length + 1) C9))
      have LB9 := Lib.hid ((LB6.out.grown hP9.grown (Ne.symm (own_blk_ne P6.out.stp LB6.out (by decide)))).other (a := ⟨sb, 1, none⟩) hls.out (.slice A9 (s.steps.length + 1) C9))
      have B9 := Lib.hid ((hP9.bel w.heap.size w hwB.out hB6.out B6.out).setCell (p := ⟨sb, 1, none⟩) hwsb.out (.slice A9 (s.steps.length + 1) C9))
      have hB9 := Lib.hid (le_setCell (Nat.le_trans hB6.out hP9.grown.size) ⟨sb, 1, none⟩ (.slice A9 (s.steps.length + 1) C9))
      clear hP9 q9 f9 s1 x0 x1 x2
      go_wp2_with fail
      go_roundw
      case rel =>
        refine ⟨k + 1, e, ⟨s.texts, s.steps ++ [x]⟩, _, _, us ++ [_], by go_num, hltH.out, Nat.le_succ_of_le htlH.out, (by show (s.steps ++ [_]).length ≤ k + 1; rw [List.length_append]; exact Nat.succ_le_succ hslH.out), ?_, hT'.out, (fun y hy => (List.mem_append.1 hy).elim (hSI.out y) (fun h => by rw [List.mem_singleton.1 h]; exact hin.out)), P9.out, RA9.out, LB9.out, B9.out, hB9.out⟩
        unfold Hid
        rw [hrestH.out]
        exact hF.out
      case measure => have := hltH.out; simp [intOf]; omega
end Go.Proofs.YtldkfhimpkiigaaGreatDoor
