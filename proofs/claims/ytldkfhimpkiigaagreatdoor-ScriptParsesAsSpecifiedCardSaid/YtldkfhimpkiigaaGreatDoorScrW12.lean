/-
  Layer 46 (script): Parse.
-/
import Derived.Test.YtldkfhimpkiigaaGreatDoorScrW11
import Derived.Test.YtldkfhimpkiigaaGreatDoorRegionLate
import Derived.WalkMore
namespace Go.Proofs.YtldkfhimpkiigaaGreatDoor
open Go.RowKit ScrP
attribute [local go_sem] Oper.semAt_some

theorem results_ctt {P : Program} {fn : Func} {p q r : Tmp} {ty : TypeId} (h : fn.results = #[.cell p ty, .tmp q, .tmp r]) (tmps : Array Value) (w : World) (g : Nat) (t : TypeId) (cs : Array Value) (d : TypeDesc)
    (hp : tmps.getD p undef = .pointer (some ⟨g, 0, none⟩)) (hg : Blk w g t cs)
    (hu : P.underlying ty = some d) (hd : (match d with | .struct _ | .array _ _ => true | _ => false) = true) (hi : (P.info? ty).map (·.size) = some cs.size) :
    (results fn tmps).run P w = .ok (.tuple #[.agg cs, tmps.getD q undef, tmps.getD r undef]) w := by
  have hp' : tmps[p]?.getD undef = .pointer (some ⟨g, 0, none⟩) := by simpa using hp
  unfold Blk at hg
  simp [results, h, hp', asAddr, run_loadVar_row w g t ty cs (0, 0) d hg hu hd hi]
/-- What Parse leaves. -/
def ParsePost (w : World) (r : ParR) (e : Ending) (w' : World) : Prop :=
  ∃ vt vs, e = .returned (.tuple #[.agg #[vt, vs], .int .i64 (r.line : Int), .int .i64 r.err]) ∧ ScrAt w' w'.heap.size (.agg #[vt, vs]) r.scr ∧ Below w.heap.size w w'
theorem scrAt_no (w : World) (B : Nat) : ScrAt w B (.agg #[.slice none 0 0, .slice none 0 0]) noScr :=
  ⟨_, _, rfl, ⟨none, 0, rfl, fun h => absurd h (Nat.lt_irrefl 0)⟩, [], rfl, ⟨none, 0, rfl, fun h => absurd h (Nat.lt_irrefl 0)⟩, fun i x u h => by cases h⟩
theorem post_no {w w' : World} {k : Nat} {c : Int} (hB : Below w.heap.size w w') : ParsePost w ⟨noScr, k, c⟩ (.returned (.tuple #[.agg #[.slice none 0 0, .slice none 0 0], .int .i64 (k : Int), .int .i64 c])) w' :=
  ⟨_, _, rfl, scrAt_no _ _, hB⟩
theorem prefix_bar (l : List UInt8) : Lib.hasPrefix l [124] = isBar l := by
  unfold Lib.hasPrefix isBar
  cases l with
  | nil => rfl
  | cons c r =>
    show ((124 : UInt8) == c && true) = (some c == some 124)
    rw [Bool.and_true, Bool.eq_iff_iff, beq_iff_eq, beq_iff_eq]
    exact ⟨fun h => by rw [h], fun h => (Option.some.inj h).symm⟩
def usedB (LL : List ByteArray) (k : Nat) : Nat := ((LL.take k).map fun x => x.size + 1).sum
theorem usedB_next {LL : List ByteArray} {k : Nat} {l : ByteArray} (h : LL[k]? = some l) : usedB LL (k + 1) = usedB LL k + (l.size + 1) := by
  unfold usedB
  rw [take_more h, List.map_append, List.sum_append]
  rfl
theorem usedB_le (LL : List ByteArray) (k : Nat) : usedB LL k ≤ (LL.map fun x => x.size + 1).sum := by
  unfold usedB
  have h : LL = LL.take k ++ LL.drop k := (List.take_append_drop k LL).symm
  conv => rhs; rw [h, List.map_append, List.sum_append]
  omega
theorem own_ne_low {w : World} {B e k n g : Nat} {v : Value} {xs : List Value} (h : w.ownsRow B e k v n xs) (hg : g < B) : some g ≠ v.ownBlock := fun e => by
  have := (h.lt g e.symm).1
  omega
structure LInfo (text : ByteArray) (LL : List ByteArray) : Prop where
  bytes : bls LL = partsB 10 text.data.toList
  len : LL.length ≤ text.size + 1
  used : (LL.map fun x => x.size + 1).sum = text.size + 1
theorem linfo (text : ByteArray) : LInfo text (Lib.splitB ⟨#[10]⟩ 0 (Lib.countB text ⟨#[10]⟩) text) := by
  have hb := lines_of text
  have hs := parts_size 10 text.data.toList
  have hl : text.data.toList.length = text.size := Array.length_toList
  rw [← hb, List.map_map, hl] at hs
  have hs2 : ((Lib.splitB ⟨#[10]⟩ 0 (Lib.countB text ⟨#[10]⟩) text).map fun x => x.size + 1).sum = text.size + 1 := by
    rw [← hs]
    congr 1
  refine ⟨hb, ?_, hs2⟩
  rw [← hs2]
  generalize Lib.splitB ⟨#[10]⟩ 0 (Lib.countB text ⟨#[10]⟩) text = L
  induction L with
  | nil => exact Nat.zero_le _
  | cons a r ih => rw [List.map_cons, List.sum_cons, List.length_cons]; omega
theorem readL_bar {l : List UInt8} {r : List (List UInt8)} {k : Nat} {s : Scr} {e : Bool} (h : isBar l = true) : readL (l :: r) k s true e = readL r (k + 1) ⟨addLine s.texts e l, s.steps⟩ true false := by
  rw [readL, if_pos h, if_pos rfl]
theorem readL_barE {l : List UInt8} {r : List (List UInt8)} {k : Nat} {s : Scr} {e : Bool} (h : isBar l = true) : readL (l :: r) k s false e = ⟨noScr, k + 1, 3⟩ := by
  rw [readL, if_pos h, if_neg (by decide)]
theorem readL_open {l : List UInt8} {r : List (List UInt8)} {k : Nat} {s : Scr} (h : isBar l = false) : readL (l :: r) k s true true = ⟨noScr, k, 3⟩ := by
  rw [readL, if_neg (by rw [h]; decide)]
  rfl
theorem readL_void {l : List UInt8} {r : List (List UInt8)} {k : Nat} {s : Scr} {o e : Bool} (h : isBar l = false) (ho : (o && e) = false) (hv : isVoid l = true) : readL (l :: r) k s o e = readL r (k + 1) s false e := by
  rw [readL, if_neg (by rw [h]; decide), ho, if_neg (by decide), if_pos hv]
theorem readL_text {l : List UInt8} {r : List (List UInt8)} {k : Nat} {s : Scr} {o e : Bool} (h : isBar l = false) (ho : (o && e) = false) (hv : isVoid l = false) (ht : isTextL l = true) : readL (l :: r) k s o e = readL r (k + 1) ⟨s.texts ++ [⟨#[]⟩], s.steps⟩ true true := by
  rw [readL, if_neg (by rw [h]; decide), ho, if_neg (by decide), if_neg (by rw [hv]; decide), if_pos ht]
theorem readL_step {l : List UInt8} {r : List (List UInt8)} {k : Nat} {s : Scr} {o e : Bool} (h : isBar l = false) (ho : (o && e) = false) (hv : isVoid l = false) (ht : isTextL l = false) : readL (l :: r) k s o e = match stepW (wordsB l) with
    | .error c => ⟨noScr, k + 1, c⟩
    | .ok x => readL r (k + 1) ⟨s.texts, s.steps ++ [x]⟩ false e := by
  rw [readL, if_neg (by rw [h]; decide), ho, if_neg (by decide), if_neg (by rw [hv]; decide), if_neg (by rw [ht]; decide)]
  cases stepW (wordsB l) <;> rfl
theorem addLine_app (ts : List ByteArray) (t : ByteArray) (e : Bool) (l : List UInt8) : addLine (ts ++ [t]) e l = ts ++ [⟨(t.data.toList ++ (if e then [] else [10]) ++ l.tail).toArray⟩] := by
  unfold addLine
  rw [List.getLast?_concat]
  dsimp only
  rw [List.dropLast_concat]
theorem PSt.lastAt {w : World} {B sb g n c : Nat} {s : Scr} {vs : Value} {us : List Value} (h : PSt w B sb s (.slice (some ⟨g, 0, none⟩) n c) vs us) {ts : List ByteArray} {t : ByteArray} (hs : s.texts = ts ++ [t]) : w.cell? ⟨g, ts.length, none⟩ = some (.string t) ∧ w.frozen? ⟨g, ts.length, none⟩ = false := by
  obtain ⟨g2, c2, hv, _, _, h1, h2⟩ := h.lastCell hs
  obtain ⟨e1, _, _⟩ := Value.slice.inj hv
  cases e1
  exact ⟨h1, h2⟩
theorem le_setCell {B : Nat} {w : World} (h : B ≤ w.heap.size) (p : Addr) (v : Value) : B ≤ (w.setCell p v).heap.size := by simpa [World.setCell] using h
theorem add_first {t tl ln : ByteArray} (h : ln.data.toList.tail = tl.data.toList) : (⟨(t.data.toList ++ (if true = true then [] else [10]) ++ ln.data.toList.tail).toArray⟩ : ByteArray) = t ++ tl := by
  rw [h]
  refine ByteArray.ext (Array.ext' ?_)
  simp [ByteArray.data_append]
theorem add_more {t tl ln : ByteArray} (h : ln.data.toList.tail = tl.data.toList) : (⟨(t.data.toList ++ (if false = true then [] else [10]) ++ ln.data.toList.tail).toArray⟩ : ByteArray) = t ++ ⟨#[10]⟩ ++ tl := by
  rw [h]
  refine ByteArray.ext (Array.ext' ?_)
  simp [ByteArray.data_append]
theorem own_mono {w : World} {B B' k n : Nat} {e : TypeId} {v : Value} {xs : List Value} (h : w.ownsRow B e k v n xs) (hb : B' ≤ B) : w.ownsRow B' e k v n xs :=
  ⟨h.1, h.2.imp id fun ⟨g, c, cur, a, b, r⟩ => ⟨g, c, cur, a, Nat.le_trans hb b, r⟩⟩
theorem sum_mem {L : List (List UInt8)} {z : List UInt8} (h : z ∈ L) : z.length + 1 ≤ (L.map fun x => x.length + 1).sum := by
  induction L with
  | nil => cases h
  | cons a t ih =>
    rw [List.map_cons, List.sum_cons]
    rcases List.mem_cons.1 h with rfl | h
    · omega
    · have := ih h
      omega
theorem sum_len (L : List (List UInt8)) : L.length ≤ (L.map fun x => x.length + 1).sum := by
  induction L with
  | nil => exact Nat.zero_le _
  | cons a t ih => rw [List.map_cons, List.sum_cons, List.length_cons]; omega
theorem words_ok (l : List UInt8) : (∀ z ∈ wordsB l, z ≠ [] ∧ z.length ≤ l.length) ∧ (wordsB l).length ≤ l.length + 1 := by
  have hs := parts_size 32 l
  unfold wordsB
  refine ⟨fun z hz => ?_, ?_⟩
  · obtain ⟨h1, h2⟩ := List.mem_filter.1 hz
    refine ⟨(fun e => by rw [e] at h2; cases h2), ?_⟩
    have := sum_mem h1
    omega
  · have := List.length_filter_le (fun w : List UInt8 => !w.isEmpty) (partsB 32 l)
    have := sum_len (partsB 32 l)
    omega
theorem stepW_err {l : List (List UInt8)} {c : Int} (h : stepW l = .error c) : c ≠ 0 := by
  unfold stepW at h
  split at h
  · cases h; decide
  · split at h
    · cases h; decide
    · split at h
      · cases h; decide
      · split at h
        · cases h
        · cases h; decide
theorem stepW_in {l : List (List UInt8)} {x : Stp} (h : stepW l = .ok x) (h1 : x.args.length ≤ 100000000) (h2 : x.text.size ≤ 200000000) : StpIn x := by
  have hok : stepOk x = true := by
    unfold stepW at h
    split at h
    · cases h
    · split at h
      · cases h
      · split at h
        · cases h
        · split at h
          · rename_i hs
            cases h
            exact hs
          · cases h
  unfold stepOk at hok
  simp only [Bool.and_eq_true] at hok
  obtain ⟨hk, _, _, _, ha, _⟩ := hok
  unfold isKindB at hk
  simp only [Bool.and_eq_true, decide_eq_true_eq] at hk
  refine ⟨⟨by omega, by omega⟩, fun a hx => ?_, by omega, by omega⟩
  have := List.all_eq_true.1 ha a hx
  unfold argOk at this
  simp only [Bool.and_eq_true, decide_eq_true_eq] at this
  exact ⟨by omega, by omega⟩
theorem bar_size {l : ByteArray} (h : isBar l.data.toList = true) : 1 ≤ l.size := by
  have e : l.size = l.data.toList.length := Array.length_toList.symm
  cases hl : l.data.toList with
  | nil => rw [hl] at h; cases h
  | cons c r => rw [e, hl, List.length_cons]; omega
def strT (l : ByteArray) : List UInt8 := l.data.toList.tail
theorem tail_bytes {l : ByteArray} (h : 1 ≤ l.size) : strT l = (l.extract 1 l.size).data.toList ∧ (l.extract 1 l.size).size + 1 = l.size := by
  have e : l.size = l.data.toList.length := Array.length_toList.symm
  unfold strT
  cases hl : l.data.toList with
  | nil => rw [hl] at e; rw [e] at h; cases h
  | cons c r =>
    obtain ⟨h1, h2⟩ := ext_tail hl
    rw [h1, h2]
    exact ⟨rfl, by show r.toArray.size + 1 = _; rw [List.size_toArray]⟩
set_option maxRecDepth 100000 in
set_option maxHeartbeats 12800000 in
theorem Parse_any (text : ByteArray) (w : World) (hs : text.size ≤ 100000000) (hK : KTab w) (hL : LibAt w) : Calls Tryz.prog 23 #[.string text] w (ParsePost w (parseS text.data.toList)) := by
  have HK := Lib.hid hK
  have HL := Lib.hid hL
  have HS := Lib.hid hs
  clear hK hL hs
  go_enter Tryz.func23, Tryz.ntmps23
  go_upto_region 1 with fail
  refine world_is (P := fun W => Code.wp _ _ _ _ W) (fun W0 hW0 => ?_)
  have B0 : Hid (Below w.heap.size w W0) := by unfold Hid; rw [← hW0]; exact (Below.refl _ _).alloc (Nat.le_refl _) _
  have RA0 : Hid (Blk W0 w.heap.size 25 #[.slice none 0 0, .slice none 0 0]) := by unfold Hid; rw [← hW0]; exact Blk.new _ _ _
  obtain ⟨ra, era⟩ : ∃ g, w.heap.size = g := ⟨_, rfl⟩
  have hra : Hid (w.heap.size ≤ ra) := Nat.le_of_eq era
  rw [era] at RA0 ⊢
  clear hW0 era
  go_step3
  go_upto_region 3 with fail
  refine world_is (P := fun W => Code.wp _ _ _ _ W) (fun W1 hW1 => ?_)
  have hB1 : Below W0.heap.size W0 W1 := by rw [← hW1]; exact (Below.refl _ _).alloc (Nat.le_refl _) _
  have B1 := Lib.hid (B0.out.trans (hB1.mono B0.out.size))
  have RA1 := Lib.hid (RA0.out.below hB1 RA0.out.lt)
  have SB1 : Hid (Blk W1 W0.heap.size 25 #[.slice none 0 0, .slice none 0 0]) := by unfold Hid; rw [← hW1]; exact Blk.new _ _ _
  have hsr : Hid (W0.heap.size ≠ ra) := Nat.ne_of_gt RA0.out.lt
  have hwsb : Hid (w.heap.size ≤ W0.heap.size) := B0.out.size
  obtain ⟨sb, esb⟩ : ∃ g, W0.heap.size = g := ⟨_, rfl⟩
  rw [esb] at SB1 hsr hwsb ⊢
  clear hW1 esb hB1 B0 RA0
  obtain ⟨_, mx, hmx⟩ := (HL.out.below B1.out).mx
  have HSp := Lib.hid (Tryz.strings_Split text ⟨#[10]⟩ mx W1 (by have := HS.out; omega) hmx (by decide))
  have HI := linfo text
  have hll := lines_len text
  obtain ⟨LL, hLL⟩ : ∃ L, Lib.splitB ⟨#[10]⟩ 0 (Lib.countB text ⟨#[10]⟩) text = L := ⟨_, rfl⟩
  obtain ⟨K, hK⟩ : ∃ K, Lib.countB text ⟨#[10]⟩ + 1 = K := ⟨_, rfl⟩
  rw [hK] at hll
  rw [hLL] at HI hll
  have HSp' := HSp.out
  rw [hLL, hK] at HSp'
  have HSpH := Lib.hid HSp'
  have HIH := Lib.hid HI
  have hllH := Lib.hid hll
  have hK8 : K ≤ 100000001 := by rw [← hll]; have := HI.len; have := HS.out; omega
  clear hmx HSp HI hll hLL hK HSp'
  go_wp2_with fail
  refine HSpH.out.mono ?_
  rintro e w2 ⟨rfl, hw2⟩
  rw [hw2]
  clear HSpH
  go_upto_region 4 with fail
  refine world_is (P := fun W => Code.wp _ _ _ _ W) (fun W2 hW2 => ?_)
  have hB2 : Below W1.heap.size W1 W2 := by rw [← hW2]; exact (Below.refl _ _).alloc (Nat.le_refl _) _
  have B2 := Lib.hid (B1.out.trans (hB2.mono B1.out.size))
  have RA2 := Lib.hid (RA1.out.below hB2 RA1.out.lt)
  have SB2 := Lib.hid (SB1.out.below hB2 SB1.out.lt)
  have LB2 : Hid (Blk W2 W1.heap.size 9 (LL.map Value.string).toArray) := by unfold Hid; rw [← hW2]; exact Blk.new _ _ _
  obtain ⟨lb, elb⟩ : ∃ g, W1.heap.size = g := ⟨_, rfl⟩
  have hlb2 : Hid (lb < W2.heap.size) := by unfold Hid; rw [← elb, ← hW2, World.size_alloc]; omega
  rw [elb] at LB2 ⊢
  obtain ⟨B, eB⟩ : ∃ B, W2.heap.size = B := ⟨_, rfl⟩
  have hlB : Hid (lb < B) := by unfold Hid; rw [← eB]; exact hlb2.out
  have hsB : Hid (sb < B) := by unfold Hid; rw [← eB]; exact SB2.out.lt
  have hrB : Hid (ra < B) := by unfold Hid; rw [← eB]; exact RA2.out.lt
  have hwB : Hid (w.heap.size ≤ B) := by unfold Hid; rw [← eB]; exact B2.out.size
  have hBW2 : Hid (B ≤ W2.heap.size) := Nat.le_of_eq eB.symm
  have P2 : Hid (PSt W2 B sb noScr (.slice none 0 0) (.slice none 0 0) []) := ⟨SB2.out, World.ownsRow_nil _ _ _ _, World.ownsRow_nil _ _ _ _, rfl, fun i x u h => by cases h⟩
  clear hW2 elb eB hB2 B1 RA1 SB1 SB2 hlb2
  go_wp2_with fail
  go_step3
  go_wp2_with fail
  go_loopw [6, 7, 9, 22] (fun v6 v7 v9 v22 wr => ∃ (k : Nat) (o e : Bool) (s : Scr) (vt vs : Value) (us : List Value), v22 = .int .i64 (k : Int) ∧ v6 = .bool o ∧ v7 = .bool e ∧ v9 = .int .i64 (k : Int) ∧ k ≤ K ∧ s.texts.length ≤ k ∧ s.steps.length ≤ k ∧
    Hid (parseS text.data.toList = readL (bls (LL.drop k)) k s o e) ∧ Hid (o = true → s.texts ≠ []) ∧ Hid (∀ t ∈ s.texts, t.size ≤ usedB LL k) ∧ Hid (∀ x ∈ s.steps, StpIn x) ∧
    Hid (PSt wr B sb s vt vs us) ∧ Hid (Blk wr ra 25 #[.slice none 0 0, .slice none 0 0]) ∧ Hid (Blk wr lb 9 (LL.map Value.string).toArray) ∧ Hid (Below w.heap.size w wr) ∧ Hid (B ≤ wr.heap.size)) (fun _ _ _ v22 _ => K - (intOf v22).toNat)
  case atStart => exact ⟨0, false, false, noScr, _, _, [], rfl, rfl, rfl, rfl, Nat.zero_le _, Nat.le_refl _, Nat.le_refl _, by unfold Hid parseS; rw [List.drop_zero, HIH.out.bytes], fun h => (by cases h), fun t h => (by cases h), fun x h => (by cases h), P2.out, RA2.out, LB2.out, B2.out, hBW2.out⟩
  case round =>
  obtain ⟨k, o, e, s, vt, vs, us, rfl, rfl, rfl, rfl, hk, htl, hsl, hR, hO, hT, hSI, P3, RA3, LB3, B3, hB3⟩ := hrel
  obtain ⟨w3, hw3⟩ : ∃ x, x = wr := ⟨_, rfl⟩
  subst hw3
  clear P2 RA2 LB2 B2 hBW2
  have hused := usedB_le LL k
  rw [HIH.out.used] at hused
  have hSb : Hid (∀ t ∈ s.texts, t.size ≤ 100000001) := fun t ht => by have := hT.out t ht; have := HS.out; omega
  clear hused
  by_cases hlt : k < K
  case neg =>
    have d1 : decide (k < K) = false := decide_eq_false hlt
    have d2 : decide ((k : Int) < (K : Int)) = false := decide_eq_false (by omega)
    have hend : LL.drop k = [] := List.drop_eq_nil_of_le (by rw [hllH.out]; omega)
    have hR1 := hR.out
    rw [hend] at hR1
    have hRe : Hid (parseS text.data.toList = if (o && e) = true then ⟨noScr, k, 3⟩ else if (checkS s).2 = 0 then ⟨s, 0, 0⟩ else ⟨noScr, 0, (checkS s).2⟩) := hR1
    have r0 := RA3.out.cell 0
    have r1 := RA3.out.cell 1
    have f0 := RA3.out.frozen 0
    have f1 := RA3.out.frozen 1
    have hsi : Hid (ScrIn s) := ⟨by omega, by omega, fun t ht => by have := hSb.out t ht; omega, hSI.out⟩
    cases hoe : (o && e)
    case true =>
      have ho : o = true := by cases o; cases hoe; rfl
      have he : e = true := by cases e; (cases o <;> cases hoe); rfl
      subst ho he
      have hF : Hid (parseS text.data.toList = ⟨noScr, k, 3⟩) := hRe.out
      clear hlt hend hR1 hoe
      go_wp2_with fail
      (try rw [Exit.noGoto_ret])
      rw [hF.out]
      exact bodyPost_ret (results_ctt (P := Tryz.prog) rfl _ _ ra 25 #[.slice none 0 0, .slice none 0 0] _ rfl ((RA3.out.set_ 0 _).set_ 1 _) Tryz.underlying25 rfl (by kernel_rfl)) rfl (post_no ((B3.out.setCell (p := ⟨ra, 0, none⟩) hra.out _).setCell (p := ⟨ra, 1, none⟩) hra.out _))
    case false =>
      have hF : Hid (parseS text.data.toList = if (checkS s).2 = 0 then ⟨s, 0, 0⟩ else ⟨noScr, 0, (checkS s).2⟩) := by
        unfold Hid
        rw [hRe.out, hoe]
        rfl
      have hC := Check_any s (.agg #[vt, vs]) w3.heap.size w3 P3.out.scr (Nat.le_refl _) hsi.out (HK.out.below B3.out) (HL.out.below B3.out)
      unfold CheckPost at hC
      obtain ⟨C, hCC⟩ : ∃ C, checkS s = C := ⟨_, rfl⟩
      rw [hCC] at hC hF
      have hCH := Lib.hid hC
      have s0 := P3.out.blk.cell 0
      have s1 := P3.out.blk.cell 1
      obtain ⟨At, Ct, evt⟩ := own_slice P3.out.txt
      obtain ⟨As, Cs, evs⟩ := own_slice P3.out.stp
      subst evt evs
      have hooe : Hid ((o && e) = false) := hoe
      clear hlt hend hR1 hC hCC hRe r0 r1 f0 f1
      have main : ∀ (o e : Bool), (o && e) = false → True := fun _ _ _ => trivial
      clear main
      cases o
      all_goals (cases e)
      all_goals (first | (exfalso; exact absurd hoe (by decide)) | skip)
      all_goals
        clear hoe
        go_wp2_with fail
        refine hCH.out.mono ?_
        rintro e' w4 ⟨rfl, hB4⟩
        have P4 := Lib.hid (P3.out.below hB4)
        have RA4 := Lib.hid (RA3.out.below hB4 RA3.out.lt)
        have B4 := Lib.hid (B3.out.trans (hB4.mono B3.out.size))
        clear hB4 s0 s1
        have r0 := RA4.out.cell 0
        have r1 := RA4.out.cell 1
        have f0 := RA4.out.frozen 0
        have f1 := RA4.out.frozen 1
        by_cases hc0 : C.2 = 0
        · have d5 : (C.2 != 0) = false := by rw [hc0]; rfl
          have hG : Hid (parseS text.data.toList = ⟨s, 0, 0⟩) := by unfold Hid; rw [hF.out, if_pos hc0]
          have s0 := P4.out.blk.cell 0
          have s1 := P4.out.blk.cell 1
          clear hc0
          go_wp2_with fail
          (try rw [Exit.noGoto_ret])
          rw [hG.out]
          refine bodyPost_ret (results_ctt (P := Tryz.prog) rfl _ _ ra 25 #[.slice At s.texts.length Ct, .slice As s.steps.length Cs] _ rfl ((RA4.out.set_ 0 _).set_ 1 _) Tryz.underlying25 rfl (by kernel_rfl)) rfl ?_
          have P5 := P4.out.other RA4.out (by decide) (by decide) (by decide) (Ne.symm hsr.out) 0 (.slice At s.texts.length Ct)
          have P6 := P5.other (RA4.out.set_ 0 _) (by decide) (by decide) (by decide) (Ne.symm hsr.out) 1 (.slice As s.steps.length Cs)
          exact ⟨_, _, rfl, P6.scr, (B4.out.setCell (p := ⟨ra, 0, none⟩) hra.out _).setCell (p := ⟨ra, 1, none⟩) hra.out _⟩
        · have d5 : (C.2 != 0) = true := by rw [bne_iff_ne]; exact hc0
          have hG : Hid (parseS text.data.toList = ⟨noScr, 0, C.2⟩) := by unfold Hid; rw [hF.out, if_neg hc0]
          clear hc0
          go_wp2_with fail
          (try rw [Exit.noGoto_ret])
          rw [hG.out]
          exact bodyPost_ret (results_ctt (P := Tryz.prog) rfl _ _ ra 25 #[.slice none 0 0, .slice none 0 0] _ rfl ((RA4.out.set_ 0 _).set_ 1 _) Tryz.underlying25 rfl (by kernel_rfl)) rfl (post_no ((B4.out.setCell (p := ⟨ra, 0, none⟩) hra.out _).setCell (p := ⟨ra, 1, none⟩) hra.out _))
  case pos =>
  have d1 : decide (k < K) = true := decide_eq_true hlt
  have d2 : decide ((k : Int) < (K : Int)) = true := decide_eq_true (by omega)
  obtain ⟨ln, hln⟩ : ∃ l, LL[k]? = some l := ⟨_, List.getElem?_eq_getElem (by rw [hllH.out]; exact hlt)⟩
  have k0 : w3.cell? ⟨lb, k, none⟩ = some (.string ln) := by rw [LB3.out.cell k]; simp [hln]
  have hun := usedB_next hln
  have hu1 := usedB_le LL (k + 1)
  rw [HIH.out.used] at hu1
  have hls : ln.size ≤ 100000000 := by have := HS.out; omega
  have hdr : bls (LL.drop k) = ln.data.toList :: bls (LL.drop (k + 1)) := by
    obtain ⟨h1, h2⟩ := List.getElem?_eq_some_iff.1 hln
    rw [List.drop_eq_getElem_cons h1, h2]
    rfl
  have hR1 := hR.out
  rw [hdr] at hR1
  obtain ⟨rest, hrest⟩ : ∃ r, bls (LL.drop (k + 1)) = r := ⟨_, rfl⟩
  rw [hrest] at hR1
  have hRH := Lib.hid hR1
  have hrestH := Lib.hid hrest
  have hunH := Lib.hid hun
  have hT' : Hid (∀ t ∈ s.texts, t.size ≤ usedB LL (k + 1)) := fun t ht => by have := hT.out t ht; omega
  have hk8 : (k : Int) ≤ 100000001 := by omega
  have q0 : (0 : Int) ≤ (k : Int) := by omega
  have q1 : (k : Int) < (K : Int) := by omega
  have hlsH := Lib.hid hls
  have hltH := Lib.hid hlt
  have hslH := Lib.hid hsl
  have htlH := Lib.hid htl
  have hk1 : Hid ((k : Int) + 1 = ((k + 1 : Nat) : Int)) := rfl
  have HP := Lib.hid (Tryz.strings_HasPrefix ln ⟨#[124]⟩ w3)
  rw [show Lib.hasPrefix ln.data.toList (⟨#[124]⟩ : ByteArray).data.toList = isBar ln.data.toList from prefix_bar _] at HP
  obtain ⟨bb, hbb⟩ : ∃ b, isBar ln.data.toList = b := ⟨_, rfl⟩
  rw [hbb] at HP
  have hbbH := Lib.hid hbb
  clear hln hun hu1 hls hdr hR1 hrest hbb hlt hR
  go_wp2_with fail
  refine HP.out.mono ?_
  rintro e' w4 ⟨rfl, hww⟩
  rw [hww]
  clear hww w4 HP k0
  cases bb
  case true =>
    cases o
    case false =>
      have hF : Hid (parseS text.data.toList = ⟨noScr, k + 1, 3⟩) := by unfold Hid; rw [hRH.out, readL_barE hbbH.out]
      have r0 := RA3.out.cell 0
      have r1 := RA3.out.cell 1
      have f0 := RA3.out.frozen 0
      have f1 := RA3.out.frozen 1
      go_wp2_with fail
      (try rw [Exit.noGoto_ret])
      rw [hF.out]
      exact bodyPost_ret (results_ctt (P := Tryz.prog) rfl _ _ ra 25 #[.slice none 0 0, .slice none 0 0] _ rfl ((RA3.out.set_ 0 _).set_ 1 _) Tryz.underlying25 rfl (by kernel_rfl)) rfl (post_no ((B3.out.setCell (p := ⟨ra, 0, none⟩) hra.out _).setCell (p := ⟨ra, 1, none⟩) hra.out _))
    case true =>
      have hne := hO.out rfl
      obtain ⟨ts, t, hts⟩ : ∃ ts t, s.texts = ts ++ [t] := ⟨s.texts.dropLast, s.texts.getLast hne, (List.dropLast_concat_getLast hne).symm⟩
      obtain ⟨g, c, rfl, hgB, hgl, kc, fc⟩ := P3.out.lastCell hts
      have hF0 : Hid (parseS text.data.toList = readL rest (k + 1) ⟨addLine s.texts e ln.data.toList, s.steps⟩ true false) := by unfold Hid; rw [hRH.out, readL_bar hbbH.out]
      have hts4 : Hid (t.size ≤ usedB LL k ∧ t.size ≤ 100000001) := ⟨hT.out t (by rw [hts]; simp), hSb.out t (by rw [hts]; simp)⟩
      have htsO : Hid (∀ u ∈ ts, u.size ≤ usedB LL (k + 1)) := fun u hu => hT'.out u (by rw [hts]; simp [hu])
      obtain ⟨T, hTe⟩ : ∃ T, t ++ (⟨#[10]⟩ : ByteArray) = T := ⟨_, rfl⟩
      have hTs : Hid (T.size = t.size + 1) := by unfold Hid; rw [← hTe, ByteArray.size_append]; rfl
      have aT : ∀ wx, (Op.stringOp .add t ⟨#[10]⟩).run Tryz.prog wx = .ok (.string T) wx := fun wx => by
        rw [← hTe]
        exact run_string_add_sum wx _ _ (by show t.size + 1 ≤ _; have := hts4.out.2; omega)
      have hTeH := Lib.hid hTe
      have hln1 : Hid (1 ≤ ln.size) := bar_size hbbH.out
      have aS := str_from ln 1 hln1.out
      rw [show ((1 : Nat) : Int) = 1 from rfl] at aS
      obtain ⟨tl, htl1⟩ : ∃ x, ln.extract 1 ln.size = x := ⟨_, rfl⟩
      rw [htl1] at aS
      have htlL : Hid (strT ln = tl.data.toList ∧ tl.size + 1 = ln.size) := by rw [← htl1]; exact tail_bytes hln1.out
      have htsH := Lib.hid hts
      have hlenn : Hid (ts.length + 1 = s.texts.length) := by unfold Hid; rw [hts, List.length_append]; rfl
      obtain ⟨m, hm⟩ : ∃ m, ts.length = m := ⟨_, rfl⟩
      obtain ⟨n, hn⟩ : ∃ n, s.texts.length = n := ⟨_, rfl⟩
      have s0 := P3.out.blk.cell 0
      have PLast := Lib.hid (P3.out)
      rw [hn] at s0
      rw [hm] at kc fc
      have hnm : (n : Int) - 1 = (m : Int) := by have := hlenn.out; omega
      have q2 : (0 : Int) ≤ (m : Int) := by omega
      have q3 : (m : Int) < (n : Int) := by omega
      have q4 : (n : Int) ≤ 100000001 := by omega
      have hmH := Lib.hid hm
      have hnH := Lib.hid hn
      clear hTe htl1 hts hm hn hne
      cases e
      case false =>
        obtain ⟨U, hU⟩ : ∃ U, T ++ tl = U := ⟨_, rfl⟩
        have aU : ∀ wx, (Op.stringOp .add T tl).run Tryz.prog wx = .ok (.string U) wx := fun wx => by
          rw [← hU]
          exact run_string_add_sum wx _ _ (by have := hts4.out.2; have := htlL.out.2; have := hlsH.out; have := hTs.out; omega)
        have hUs : Hid (U.size ≤ usedB LL (k + 1)) := by
          unfold Hid
          rw [← hU, ByteArray.size_append, hunH.out]
          have := hts4.out.1
          have := htlL.out.2
          have := hTs.out
          omega
        have hF : Hid (parseS text.data.toList = readL rest (k + 1) ⟨ts ++ [U], s.steps⟩ true false) := by
          unfold Hid
          rw [hF0.out, htsH.out, addLine_app, add_more htlL.out.1, hTeH.out, hU]
        clear hU
        go_upto_region 15 with fail
        refine world_is (P := fun W => Code.wp _ _ _ _ W) (fun W5 hW5 => ?_)
        have P5 : Hid (PSt W5 B sb ⟨ts ++ [T], s.steps⟩ (.slice (some ⟨g, 0, none⟩) n c) vs us) := by unfold Hid; rw [← hW5, ← hmH.out, ← hnH.out]; exact PLast.out.last htsH.out rfl
        have RA5 : Hid (Blk W5 ra 25 #[.slice none 0 0, .slice none 0 0]) := by unfold Hid; rw [← hW5]; exact RA3.out.other (a := ⟨g, m, none⟩) (Nat.ne_of_lt (Nat.lt_of_lt_of_le hrB.out hgB)) _
        have LB5 : Hid (Blk W5 lb 9 (LL.map Value.string).toArray) := by unfold Hid; rw [← hW5]; exact LB3.out.other (a := ⟨g, m, none⟩) (Nat.ne_of_lt (Nat.lt_of_lt_of_le hlB.out hgB)) _
        have B5 : Hid (Below w.heap.size w W5) := by unfold Hid; rw [← hW5]; exact B3.out.setCell (p := ⟨g, m, none⟩) (Nat.le_trans hwB.out hgB) _
        have hB5 : Hid (B ≤ W5.heap.size) := by unfold Hid; rw [← hW5]; exact le_setCell hB3.out _ _
        have hts5 : Hid ((⟨ts ++ [T], s.steps⟩ : Scr).texts = ts ++ [T]) := rfl
        clear hW5
        obtain ⟨kc5, fc5⟩ := P5.out.lastAt hts5.out
        rw [hmH.out] at kc5 fc5
        refine Late.wp_region_late (S := fun w' => w'.cell? ⟨g, m, none⟩ = some (.string T)) [8, 9] (by kernel_rfl) (kc5) (fun hHeld => ?_)
        refine' Late.wpAnyK_takeT (i := 0) (v := ?v0z) rfl (by kernel_rfl) (by kernel_rfl) (by kernel_rfl) (fun _ _ _ h => h) (Or.inl ⟨by rfl, ?hy0z⟩) ?rest0z
        case hy0z => intro w hSw; (try dsimp only at hSw); go_simp; all_goals with_reducible rfl
        try simp only [Act.put, List.setIfInBounds_toArray, List.set_cons_zero, List.set_cons_succ, List.getElem_toArray, List.getElem_cons_zero]
        refine' Late.wpAnyK_takeT (i := 1) (v := ?v1z) rfl (by kernel_rfl) (by kernel_rfl) (by kernel_rfl) (fun _ _ _ h => h) (Or.inl ⟨by rfl, ?hy1z⟩) ?rest1z
        case hy1z => intro w hSw; (try dsimp only at hSw); go_simp; all_goals with_reducible rfl
        try simp only [Act.put, List.setIfInBounds_toArray, List.set_cons_zero, List.set_cons_succ, List.getElem_toArray, List.getElem_cons_zero, List.getElem_cons_succ]
        refine' Late.wpAnyK_takeT (i := 2) (v := ?v2z) rfl (by kernel_rfl) (by kernel_rfl) (by kernel_rfl) (fun _ _ _ h => h) (Or.inl ⟨by rfl, ?hy2z⟩) ?rest2z
        case hy2z => intro w hSw; (try dsimp only at hSw); go_simp; all_goals with_reducible rfl
        try simp only [Act.put, List.setIfInBounds_toArray, List.set_cons_zero, List.set_cons_succ, List.getElem_toArray, List.getElem_cons_zero, List.getElem_cons_succ]
        refine' Late.wpAnyK_take (i := 3) (v := ?v3z) rfl (by kernel_rfl) (by kernel_rfl) (by kernel_rfl) (by kernel_rfl) (by kernel_rfl) (fun _ _ _ h => h) (Or.inl ⟨by rfl, ?hy3z⟩) hHeld ?rest3z
        case hy3z => intro w hSw; (try dsimp only at hSw); go_simp; all_goals with_reducible rfl
        try simp only [Act.put, List.setIfInBounds_toArray, List.set_cons_zero, List.set_cons_succ, List.getElem_toArray, List.getElem_cons_zero, List.getElem_cons_succ]
        refine' Late.wpAnyK_takeT (i := 4) (v := ?v4z) rfl (by kernel_rfl) (by kernel_rfl) (by kernel_rfl) (fun _ _ _ h => h) (Or.inl ⟨by rfl, ?hy4z⟩) ?rest4z
        case hy4z => intro w hSw; (try dsimp only at hSw); go_simp; all_goals with_reducible rfl
        try simp only [Act.put, List.setIfInBounds_toArray, List.set_cons_zero, List.set_cons_succ, List.getElem_toArray, List.getElem_cons_zero, List.getElem_cons_succ]
        refine' Late.wpAnyK_takeT (i := 5) (v := ?v5z) rfl (by kernel_rfl) (by kernel_rfl) (by kernel_rfl) (fun _ _ _ h => h) (Or.inl ⟨by rfl, ?hy5z⟩) ?rest5z
        case hy5z => intro w hSw; (try dsimp only at hSw); go_simp; all_goals with_reducible rfl
        try simp only [Act.put, List.setIfInBounds_toArray, List.set_cons_zero, List.set_cons_succ, List.getElem_toArray, List.getElem_cons_zero, List.getElem_cons_succ]
        refine' Late.wpAnyK_takeT (i := 6) (v := ?v6z) rfl (by kernel_rfl) (by kernel_rfl) (by kernel_rfl) (fun _ _ _ h => h) (Or.inl ⟨by rfl, ?hy6z⟩) ?rest6z
        case hy6z => intro w hSw; (try dsimp only at hSw); go_simp; all_goals with_reducible rfl
        try simp only [Act.put, List.setIfInBounds_toArray, List.set_cons_zero, List.set_cons_succ, List.getElem_toArray, List.getElem_cons_zero, List.getElem_cons_succ]
        refine' Late.wpAnyK_takeT (i := 7) (v := ?v7z) rfl (by kernel_rfl) (by kernel_rfl) (by kernel_rfl) (fun _ _ _ h => h) (Or.inl ⟨by rfl, ?hy7z⟩) ?rest7z
        case hy7z => intro w hSw; (try dsimp only at hSw); go_simp; all_goals with_reducible rfl
        try simp only [Act.put, List.setIfInBounds_toArray, List.set_cons_zero, List.set_cons_succ, List.getElem_toArray, List.getElem_cons_zero, List.getElem_cons_succ]
        refine Late.wpAnyK_ready (rs := [8]) (by kernel_rfl) (by simp) ?_
        refine Late.AllReadyK.late rfl (by kernel_rfl) (fun KQ hKQ => ?_)
        have c9 : W5.drew.cell? ⟨g, m, none⟩ = some (.string T) := kc5
        have f9 : W5.drew.frozen? ⟨g, m, none⟩ = false := fc5
        go_simp
        refine world_is (P := fun W => KQ _ W) (fun W6 hW6 => ?_)
        have bd := (Below.refl W5.heap.size W5).drew
        have P6 : Hid (PSt W6 B sb ⟨ts ++ [U], s.steps⟩ (.slice (some ⟨g, 0, none⟩) n c) vs us) := by unfold Hid; rw [← hW6, ← hmH.out]; exact (P5.out.below bd).last hts5.out (by rw [List.length_append, List.length_singleton, hlenn.out, hnH.out])
        have RA6 : Hid (Blk W6 ra 25 #[.slice none 0 0, .slice none 0 0]) := by unfold Hid; rw [← hW6]; exact (RA5.out.below bd RA5.out.lt).other (a := ⟨g, m, none⟩) (Nat.ne_of_lt (Nat.lt_of_lt_of_le hrB.out hgB)) _
        have LB6 : Hid (Blk W6 lb 9 (LL.map Value.string).toArray) := by unfold Hid; rw [← hW6]; exact (LB5.out.below bd LB5.out.lt).other (a := ⟨g, m, none⟩) (Nat.ne_of_lt (Nat.lt_of_lt_of_le hlB.out hgB)) _
        have B6 : Hid (Below w.heap.size w W6) := by unfold Hid; rw [← hW6]; exact B5.out.drew.setCell (p := ⟨g, m, none⟩) (Nat.le_trans hwB.out hgB) _
        have hB6 : Hid (B ≤ W6.heap.size) := by unfold Hid; rw [← hW6]; exact le_setCell (w := W5.drew) hB5.out _ _
        clear hW6 bd c9 f9 kc5 fc5 P5 RA5 LB5 B5 hB5 hHeld PLast
        refine hKQ.out _ _ ?_
        clear hKQ KQ
        try simp only [Act.put, List.setIfInBounds_toArray, List.set_cons_zero, List.set_cons_succ, List.getElem_toArray, List.getElem_cons_zero, List.getElem_cons_succ]
        refine Late.wpAnyK_ready (rs := [9]) (by kernel_rfl) (by simp) ?_
        refine Late.AllReadyK.late rfl (by kernel_rfl) (fun KQ hKQ => ?_)
        go_simp
        refine hKQ.out _ _ ?_
        clear hKQ KQ
        try simp only [Act.put, List.setIfInBounds_toArray, List.set_cons_zero, List.set_cons_succ, List.getElem_toArray, List.getElem_cons_zero, List.getElem_cons_succ]
        refine Late.wpAnyK_done (by kernel_rfl) ?_ _
        go_wp2_with fail
        go_roundw
        case rel =>
          refine ⟨k + 1, true, false, ⟨ts ++ [U], s.steps⟩, _, _, us, by go_num, rfl, rfl, by go_num, hltH.out, ?_, Nat.le_succ_of_le hslH.out, ?_, fun _ => by simp, ?_, hSI.out, P6.out, RA6.out, LB6.out, B6.out, hB6.out⟩
          · show (ts ++ [U]).length ≤ k + 1
            rw [List.length_append, List.length_singleton, hlenn.out]
            exact Nat.le_succ_of_le htlH.out
          · unfold Hid
            rw [hrestH.out]
            exact hF.out
          · intro x hx
            rcases List.mem_append.1 hx with h | h
            · exact htsO.out x h
            · rw [List.mem_singleton.1 h]
              exact hUs.out
        case measure => have := hltH.out; simp [intOf]; omega
      case true =>
        obtain ⟨U, hU⟩ : ∃ U, t ++ tl = U := ⟨_, rfl⟩
        have aU : ∀ wx, (Op.stringOp .add t tl).run Tryz.prog wx = .ok (.string U) wx := fun wx => by
          rw [← hU]
          exact run_string_add_sum wx _ _ (by have := hts4.out.2; have := htlL.out.2; have := hlsH.out; have := hTs.out; omega)
        have hUs : Hid (U.size ≤ usedB LL (k + 1)) := by
          unfold Hid
          rw [← hU, ByteArray.size_append, hunH.out]
          have := hts4.out.1
          have := htlL.out.2
          have := hTs.out
          omega
        have hF : Hid (parseS text.data.toList = readL rest (k + 1) ⟨ts ++ [U], s.steps⟩ true false) := by
          unfold Hid
          rw [hF0.out, htsH.out, addLine_app, add_first htlL.out.1, hU]
        clear hU
        go_upto_region 15 with fail
        have P5 : Hid (PSt w3 B sb s (.slice (some ⟨g, 0, none⟩) n c) vs us) := by unfold Hid; rw [← hnH.out]; exact PLast.out
        have RA5 := RA3
        have LB5 := LB3
        have B5 := B3
        have hB5 := hB3
        have hts5 := htsH
        obtain ⟨kc5, fc5⟩ := P5.out.lastAt hts5.out
        rw [hmH.out] at kc5 fc5
        refine Late.wp_region_late (S := fun w' => w'.cell? ⟨g, m, none⟩ = some (.string t)) [8, 9] (by kernel_rfl) (kc5) (fun hHeld => ?_)
        refine' Late.wpAnyK_takeT (i := 0) (v := ?v0y) rfl (by kernel_rfl) (by kernel_rfl) (by kernel_rfl) (fun _ _ _ h => h) (Or.inl ⟨by rfl, ?hy0y⟩) ?rest0y
        case hy0y => intro w hSw; (try dsimp only at hSw); go_simp; all_goals with_reducible rfl
        try simp only [Act.put, List.setIfInBounds_toArray, List.set_cons_zero, List.set_cons_succ, List.getElem_toArray, List.getElem_cons_zero]
        refine' Late.wpAnyK_takeT (i := 1) (v := ?v1y) rfl (by kernel_rfl) (by kernel_rfl) (by kernel_rfl) (fun _ _ _ h => h) (Or.inl ⟨by rfl, ?hy1y⟩) ?rest1y
        case hy1y => intro w hSw; (try dsimp only at hSw); go_simp; all_goals with_reducible rfl
        try simp only [Act.put, List.setIfInBounds_toArray, List.set_cons_zero, List.set_cons_succ, List.getElem_toArray, List.getElem_cons_zero, List.getElem_cons_succ]
        refine' Late.wpAnyK_takeT (i := 2) (v := ?v2y) rfl (by kernel_rfl) (by kernel_rfl) (by kernel_rfl) (fun _ _ _ h => h) (Or.inl ⟨by rfl, ?hy2y⟩) ?rest2y
        case hy2y => intro w hSw; (try dsimp only at hSw); go_simp; all_goals with_reducible rfl
        try simp only [Act.put, List.setIfInBounds_toArray, List.set_cons_zero, List.set_cons_succ, List.getElem_toArray, List.getElem_cons_zero, List.getElem_cons_succ]
        refine' Late.wpAnyK_take (i := 3) (v := ?v3y) rfl (by kernel_rfl) (by kernel_rfl) (by kernel_rfl) (by kernel_rfl) (by kernel_rfl) (fun _ _ _ h => h) (Or.inl ⟨by rfl, ?hy3y⟩) hHeld ?rest3y
        case hy3y => intro w hSw; (try dsimp only at hSw); go_simp; all_goals with_reducible rfl
        try simp only [Act.put, List.setIfInBounds_toArray, List.set_cons_zero, List.set_cons_succ, List.getElem_toArray, List.getElem_cons_zero, List.getElem_cons_succ]
        refine' Late.wpAnyK_takeT (i := 4) (v := ?v4y) rfl (by kernel_rfl) (by kernel_rfl) (by kernel_rfl) (fun _ _ _ h => h) (Or.inl ⟨by rfl, ?hy4y⟩) ?rest4y
        case hy4y => intro w hSw; (try dsimp only at hSw); go_simp; all_goals with_reducible rfl
        try simp only [Act.put, List.setIfInBounds_toArray, List.set_cons_zero, List.set_cons_succ, List.getElem_toArray, List.getElem_cons_zero, List.getElem_cons_succ]
        refine' Late.wpAnyK_takeT (i := 5) (v := ?v5y) rfl (by kernel_rfl) (by kernel_rfl) (by kernel_rfl) (fun _ _ _ h => h) (Or.inl ⟨by rfl, ?hy5y⟩) ?rest5y
        case hy5y => intro w hSw; (try dsimp only at hSw); go_simp; all_goals with_reducible rfl
        try simp only [Act.put, List.setIfInBounds_toArray, List.set_cons_zero, List.set_cons_succ, List.getElem_toArray, List.getElem_cons_zero, List.getElem_cons_succ]
        refine' Late.wpAnyK_takeT (i := 6) (v := ?v6y) rfl (by kernel_rfl) (by kernel_rfl) (by kernel_rfl) (fun _ _ _ h => h) (Or.inl ⟨by rfl, ?hy6y⟩) ?rest6y
        case hy6y => intro w hSw; (try dsimp only at hSw); go_simp; all_goals with_reducible rfl
        try simp only [Act.put, List.setIfInBounds_toArray, List.set_cons_zero, List.set_cons_succ, List.getElem_toArray, List.getElem_cons_zero, List.getElem_cons_succ]
        refine' Late.wpAnyK_takeT (i := 7) (v := ?v7y) rfl (by kernel_rfl) (by kernel_rfl) (by kernel_rfl) (fun _ _ _ h => h) (Or.inl ⟨by rfl, ?hy7y⟩) ?rest7y
        case hy7y => intro w hSw; (try dsimp only at hSw); go_simp; all_goals with_reducible rfl
        try simp only [Act.put, List.setIfInBounds_toArray, List.set_cons_zero, List.set_cons_succ, List.getElem_toArray, List.getElem_cons_zero, List.getElem_cons_succ]
        refine Late.wpAnyK_ready (rs := [8]) (by kernel_rfl) (by simp) ?_
        refine Late.AllReadyK.late rfl (by kernel_rfl) (fun KQ hKQ => ?_)
        have c9 : w3.drew.cell? ⟨g, m, none⟩ = some (.string t) := kc5
        have f9 : w3.drew.frozen? ⟨g, m, none⟩ = false := fc5
        go_simp
        refine world_is (P := fun W => KQ _ W) (fun W6 hW6 => ?_)
        have bd := (Below.refl w3.heap.size w3).drew
        have P6 : Hid (PSt W6 B sb ⟨ts ++ [U], s.steps⟩ (.slice (some ⟨g, 0, none⟩) n c) vs us) := by unfold Hid; rw [← hW6, ← hmH.out]; exact (P5.out.below bd).last hts5.out (by rw [hnH.out])
        have RA6 : Hid (Blk W6 ra 25 #[.slice none 0 0, .slice none 0 0]) := by unfold Hid; rw [← hW6]; exact (RA5.out.below bd RA5.out.lt).other (a := ⟨g, m, none⟩) (Nat.ne_of_lt (Nat.lt_of_lt_of_le hrB.out hgB)) _
        have LB6 : Hid (Blk W6 lb 9 (LL.map Value.string).toArray) := by unfold Hid; rw [← hW6]; exact (LB5.out.below bd LB5.out.lt).other (a := ⟨g, m, none⟩) (Nat.ne_of_lt (Nat.lt_of_lt_of_le hlB.out hgB)) _
        have B6 : Hid (Below w.heap.size w W6) := by unfold Hid; rw [← hW6]; exact B5.out.drew.setCell (p := ⟨g, m, none⟩) (Nat.le_trans hwB.out hgB) _
        have hB6 : Hid (B ≤ W6.heap.size) := by unfold Hid; rw [← hW6]; exact le_setCell (w := w3.drew) hB5.out _ _
        clear hW6 bd c9 f9 kc5 fc5 P5 RA5 LB5 B5 hB5 hHeld PLast
        refine hKQ.out _ _ ?_
        clear hKQ KQ
        try simp only [Act.put, List.setIfInBounds_toArray, List.set_cons_zero, List.set_cons_succ, List.getElem_toArray, List.getElem_cons_zero, List.getElem_cons_succ]
        refine Late.wpAnyK_ready (rs := [9]) (by kernel_rfl) (by simp) ?_
        refine Late.AllReadyK.late rfl (by kernel_rfl) (fun KQ hKQ => ?_)
        go_simp
        refine hKQ.out _ _ ?_
        clear hKQ KQ
        try simp only [Act.put, List.setIfInBounds_toArray, List.set_cons_zero, List.set_cons_succ, List.getElem_toArray, List.getElem_cons_zero, List.getElem_cons_succ]
        refine Late.wpAnyK_done (by kernel_rfl) ?_ _
        go_wp2_with fail
        go_roundw
        case rel =>
          refine ⟨k + 1, true, false, ⟨ts ++ [U], s.steps⟩, _, _, us, by go_num, rfl, rfl, by go_num, hltH.out, ?_, Nat.le_succ_of_le hslH.out, ?_, fun _ => by simp, ?_, hSI.out, P6.out, RA6.out, LB6.out, B6.out, hB6.out⟩
          · show (ts ++ [U]).length ≤ k + 1
            rw [List.length_append, List.length_singleton, hlenn.out]
            exact Nat.le_succ_of_le htlH.out
          · unfold Hid
            rw [hrestH.out]
            exact hF.out
          · intro x hx
            rcases List.mem_append.1 hx with h | h
            · exact htsO.out x h
            · rw [List.mem_singleton.1 h]
              exact hUs.out
        case measure => have := hltH.out; simp [intOf]; omega
  case false =>
  obtain ⟨cb, hcb⟩ : ∃ b, (o && e) = b := ⟨_, rfl⟩
  have hcbH := Lib.hid hcb
  clear hcb
  go_upto_region 16 with fail
  go_cut [60] from 57 to 105 (fun v wx => v = .bool cb ∧ wx = w3)
  case first =>
    have h1 := hcbH.out
    cases o
    all_goals (cases e)
    all_goals
      obtain rfl := h1
      go_wp2_with fail
      go_meet
      exact ⟨rfl, rfl⟩
  case rest =>
  obtain ⟨rfl, hww⟩ := hcut
  rw [hww]
  clear hww
  cases cb
  case true =>
    have hF : Hid (parseS text.data.toList = ⟨noScr, k, 3⟩) := by
      have h1 := hcbH.out
      unfold Hid
      rw [hRH.out]
      cases o
      · cases h1
      · cases e
        · cases h1
        · exact readL_open hbbH.out
    have r0 := RA3.out.cell 0
    have r1 := RA3.out.cell 1
    have f0 := RA3.out.frozen 0
    have f1 := RA3.out.frozen 1
    go_wp2_with fail
    (try rw [Exit.noGoto_ret])
    rw [hF.out]
    exact bodyPost_ret (results_ctt (P := Tryz.prog) rfl _ _ ra 25 #[.slice none 0 0, .slice none 0 0] _ rfl ((RA3.out.set_ 0 _).set_ 1 _) Tryz.underlying25 rfl (by kernel_rfl)) rfl (post_no ((B3.out.setCell (p := ⟨ra, 0, none⟩) hra.out _).setCell (p := ⟨ra, 1, none⟩) hra.out _))
  case false =>
  have HFf := Tryz.strings_FieldsFunc 55 #[] (enters_of Tryz.func55 (by kernel_rfl) rfl) (fun r => r == 32) ln w3 (by have := hlsH.out; omega) (blank_pred w3)
  have hwd := fields_words ln
  obtain ⟨WL, hWL⟩ : ∃ L, Lib.goFieldsP (fun r => r == 32) ln = L := ⟨_, rfl⟩
  obtain ⟨NW, hNW⟩ : ∃ N, WL.length = N := ⟨_, rfl⟩
  rw [hWL] at HFf hwd
  rw [hNW] at HFf
  have HFH := Lib.hid HFf
  have hwdH : Hid (bls WL = wordsB ln.data.toList) := hwd
  have hNWH := Lib.hid hNW
  clear HFf hwd hNW hWL
  go_wp2_with fail
  refine HFH.out.mono ?_
  rintro e' w4 ⟨A, rfl, hA4, hRow4, hbel4⟩
  have HR4 := Lib.hid hRow4
  have hAlt : Hid (A < w4.heap.size) := (hRow4.lt A rfl).2
  have P4 := Lib.hid (P3.out.below hbel4)
  have RA4 := Lib.hid (RA3.out.below hbel4 RA3.out.lt)
  have LB4 := Lib.hid (LB3.out.below hbel4 LB3.out.lt)
  have B4 := Lib.hid (B3.out.trans (hbel4.mono B3.out.size))
  have hB4 : Hid (B ≤ w4.heap.size) := Nat.le_trans hB3.out hbel4.size
  clear P3 RA3 LB3 B3 hB3
  clear hRow4 hbel4 HFH hA4
  by_cases hw0 : NW = 0
  case pos =>
    subst hw0
    have hv : isVoid ln.data.toList = true := by
      unfold isVoid
      rw [← hwdH.out, List.eq_nil_of_length_eq_zero hNWH.out]
      rfl
    have hF : Hid (parseS text.data.toList = readL rest (k + 1) s false e) := by unfold Hid; rw [hRH.out, readL_void hbbH.out hcbH.out hv]
    clear hv
    go_wp2_with fail
    go_roundw
    case rel =>
      refine ⟨k + 1, false, e, s, _, _, us, by go_num, rfl, rfl, by go_num, hltH.out, Nat.le_succ_of_le htlH.out, Nat.le_succ_of_le hslH.out, ?_, (fun h => by cases h), hT'.out, hSI.out, P4.out, RA4.out, LB4.out, B4.out, hB4.out⟩
      unfold Hid
      rw [hrestH.out]
      exact hF.out
    case measure => have := hltH.out; simp [intOf]; omega
  case neg =>
  obtain ⟨c, r, hcr⟩ : ∃ c r, ln.data.toList = c :: r := by
    cases h : ln.data.toList with
    | nil =>
      have h2 := hwdH.out
      rw [h] at h2
      have h3 : (bls WL).length = 0 := by rw [h2]; rfl
      unfold bls at h3
      rw [List.length_map, hNWH.out] at h3
      exact absurd h3 hw0
    | cons c r => exact ⟨c, r, rfl⟩
  have hi := str_index (s := ln) (k := 0) (c := c) (by rw [hcr]; rfl)
  rw [show ((0 : Nat) : Int) = 0 from rfl] at hi
  have n0 : ((NW : Int) == 0) = false := by rw [beq_eq_false_iff_ne]; omega
  have n0' : (NW == 0) = false := by rw [beq_eq_false_iff_ne]; omega
  have hwe : (wordsB ln.data.toList).isEmpty = false := by
    rw [← hwdH.out]
    cases h : WL with
    | nil => rw [h] at hNWH; exact absurd hNWH.out.symm hw0
    | cons a b => rfl
  by_cases c35 : c = 35
  case pos =>
    have e2 : ((c.toNat : Int) == 35) = true := by rw [c35]; rfl
    have hv : isVoid ln.data.toList = true := by
      unfold isVoid
      rw [hcr, c35]
      simp
    have hF : Hid (parseS text.data.toList = readL rest (k + 1) s false e) := by unfold Hid; rw [hRH.out, readL_void hbbH.out hcbH.out hv]
    clear hv hcr hwe c35
    go_wp2_with fail
    go_roundw
    case rel =>
      refine ⟨k + 1, false, e, s, _, _, us, by go_num, rfl, rfl, by go_num, hltH.out, Nat.le_succ_of_le htlH.out, Nat.le_succ_of_le hslH.out, ?_, (fun h => by cases h), hT'.out, hSI.out, P4.out, RA4.out, LB4.out, B4.out, hB4.out⟩
      unfold Hid
      rw [hrestH.out]
      exact hF.out
    case measure => have := hltH.out; simp [intOf]; omega
  case neg =>
  have e2 : ((c.toNat : Int) == 35) = false := by
    rw [beq_eq_false_iff_ne]
    intro h
    exact c35 (UInt8.toNat_inj.1 (by show c.toNat = 35; omega))
  have hv : Hid (isVoid ln.data.toList = false) := by
    unfold Hid isVoid
    rw [hwe, hcr]
    show (some c == some 35) = false
    rw [beq_eq_false_iff_ne]
    intro h
    cases h
    exact c35 rfl
  have hw0H := Lib.hid hw0
  clear hcr hwe c35 hw0
  go_upto_region 21 with fail
  clear e2 hi
  obtain ⟨tb, htb⟩ : ∃ b, isTextL ln.data.toList = b := ⟨_, rfl⟩
  have htbH := Lib.hid htb
  clear htb
  go_cut [74] from 75 to 105 (fun v wx => v = .bool tb ∧ wx = w4)
  case first =>
    by_cases hn1 : NW = 1
    case pos =>
      subst hn1
      obtain ⟨z, hz⟩ : ∃ z, WL = [z] := List.length_eq_one_iff.1 hNWH.out
      have kz : w4.cell? ⟨A, 0, none⟩ = some (.string z) := by
        have := HR4.out.cells (g := A) rfl 0 (.string z) (by rw [hz]; rfl)
        rwa [Addr.add_lit, Nat.zero_add] at this
      have e4 : (z.toList == [116, 101, 120, 116]) = tb := by
        rw [← htbH.out]
        unfold isTextL
        rw [← hwdH.out, hz, ByteArray.toList_eq]
        show _ = ([z.data.toList] == [[116, 101, 120, 116]])
        rw [Bool.eq_iff_iff, beq_iff_eq, beq_iff_eq]
        exact ⟨fun h => by rw [h], fun h => (List.cons.inj h).1⟩
      have e3 : (z.toList == (⟨#[116, 101, 120, 116]⟩ : ByteArray).toList) = tb := by
        rw [show (⟨#[116, 101, 120, 116]⟩ : ByteArray).toList = [116, 101, 120, 116] by rw [ByteArray.toList_eq]]
        exact e4
      clear hz
      go_wp2_with fail
      go_meet
      exact ⟨by first | rfl | rw [e4] | rw [e3], rfl⟩
    case neg =>
      have n1 : ((NW : Int) == 1) = false := by rw [beq_eq_false_iff_ne]; omega
      have n1' : (NW == 1) = false := by rw [beq_eq_false_iff_ne]; omega
      have e3 : Hid (tb = false) := by
        unfold Hid
        rw [← htbH.out]
        unfold isTextL
        rw [beq_eq_false_iff_ne, ← hwdH.out]
        intro h
        have h2 := congrArg List.length h
        unfold bls at h2
        rw [List.length_map, hNWH.out] at h2
        exact hn1 h2
      clear hn1
      go_wp2_with fail
      go_meet
      exact ⟨by rw [e3.out], rfl⟩
  case rest =>
  obtain ⟨rfl, hww⟩ := hcut
  rw [hww]
  clear hww n0 n0'
  cases tb
  case true =>
    have hF : Hid (parseS text.data.toList = readL rest (k + 1) ⟨s.texts ++ [⟨#[]⟩], s.steps⟩ true true) := by unfold Hid; rw [hRH.out, readL_text hbbH.out hcbH.out hv.out htbH.out]
    have ho1 : ∀ u ∈ (#[Value.string ⟨#[]⟩] : Array Value).toList, u.oneCell' = true := by intro u hu; simp only [List.mem_singleton] at hu; rw [hu]; rfl
    obtain ⟨At, Ct, evt⟩ := own_slice P4.out.txt
    subst evt
    have s0 := P4.out.blk.cell 0
    have hlS : Hid (s.texts.length + 1 ≤ 1000000000) := by unfold Hid; have := htlH.out; omega
    have hls : Hid (lb ≠ sb) := fun e => Blk.ne_ (e ▸ LB4.out) P4.out.blk (by decide) rfl
    go_upto_region 28 with (refine wp_gpush_list 22 9 (.string ⟨#[]⟩) 1 16 Tryz.underlying22 (by kernel_rfl) rfl (by decide) (by decide) rfl _ _ rfl B (.slice At s.texts.length Ct) s.texts.length (strsC s.texts) rfl P4.out.txt 1 1 #[.string ⟨#[]⟩] rfl rfl ho1 hlS.out hB4.out ?_; intro v9 w9 hP9; obtain ⟨A9, C9, rfl⟩ := own_slice hP9.row; have q9 := (P4.out.blk.grown hP9.grown (Ne.symm (own_blk_ne P4.out.txt P4.out.blk (by decide)))).cell 0; have f9 := (P4.out.blk.grown hP9.grown (Ne.symm (own_blk_ne P4.out.txt P4.out.blk (by decide)))).frozen 0)
    have hrow9 : w9.ownsRow B 9 1 (.slice A9 (s.texts.length + 1) C9) (s.texts ++ [(⟨#[]⟩ : ByteArray)]).length (strsC (s.texts ++ [(⟨#[]⟩ : ByteArray)])) := by
      rw [show (s.texts ++ [(⟨#[]⟩ : ByteArray)]).length = s.texts.length + 1 by rw [List.length_append]; rfl, show strsC (s.texts ++ [(⟨#[]⟩ : ByteArray)]) = strsC s.texts ++ [.string ⟨#[]⟩] by unfold strsC; rw [List.map_append]; rfl]
      exact hP9.row
    have P9 := Lib.hid (P4.out.texts hP9.grown hrow9)
    have RA9 := Lib.hid ((RA4.out.grown hP9.grown (Ne.symm (own_blk_ne P4.out.txt RA4.out (by decide)))).other (a := ⟨sb, 0, none⟩) (Ne.symm hsr.out) (.slice A9 (s.texts.length + 1) C9))
    have LB9 := Lib.hid ((LB4.out.grown hP9.grown (own_ne_low P4.out.txt hlB.out)).other (a := ⟨sb, 0, none⟩) hls.out (.slice A9 (s.texts.length + 1) C9))
    have B9 := Lib.hid ((hP9.bel w.heap.size w hwB.out hB4.out B4.out).setCell (p := ⟨sb, 0, none⟩) hwsb.out (.slice A9 (s.texts.length + 1) C9))
    have hB9 := Lib.hid (le_setCell (Nat.le_trans hB4.out hP9.grown.size) ⟨sb, 0, none⟩ (.slice A9 (s.texts.length + 1) C9))
    clear hP9 hrow9 q9 f9 s0
    go_wp2_with fail
    go_roundw
    case rel =>
      refine ⟨k + 1, true, true, ⟨s.texts ++ [(⟨#[]⟩ : ByteArray)], s.steps⟩, _, _, us, by go_num, rfl, rfl, by go_num, hltH.out, (by show (s.texts ++ [_]).length ≤ k + 1; rw [List.length_append]; exact Nat.succ_le_succ htlH.out), Nat.le_succ_of_le hslH.out, ?_, (fun _ => by simp), (fun x hx => (List.mem_append.1 hx).elim (hT'.out x) (fun h => by rw [List.mem_singleton.1 h]; exact Nat.zero_le _)), hSI.out, P9.out, RA9.out, LB9.out, B9.out, hB9.out⟩
      unfold Hid
      rw [hrestH.out]
      exact hF.out
    case measure => have := hltH.out; simp [intOf]; omega
  case false =>
    obtain ⟨z0, rs, hze⟩ : ∃ z rs, WL = z :: rs := by
      cases h : WL with
      | nil => rw [h] at hNWH; exact absurd hNWH.out.symm hw0H.out
      | cons a b => exact ⟨a, b, rfl⟩
    have hwo := words_ok ln.data.toList
    have hlen : ln.data.toList.length = ln.size := Array.length_toList
    have hrl : rs.length + 1 = NW := by rw [← hNWH.out, hze, List.length_cons]
    have hNWb : NW ≤ ln.size + 1 := by
      rw [← hlen, ← hNWH.out]
      have := hwo.2
      rw [← hwdH.out] at this
      unfold bls at this
      rw [List.length_map] at this
      exact this
    have HSt := step_any z0 rs A w4 (fun j z hj => by
        have := HR4.out.cells (g := A) rfl j (.string z) (by rw [hze, List.getElem?_map, hj]; rfl)
        rwa [Addr.add_lit, Nat.zero_add] at this) hAlt.out (fun z hz => by
        have hm : z.data.toList ∈ wordsB ln.data.toList := by rw [← hwdH.out, hze]; exact List.mem_map_of_mem hz
        have h1 := hwo.1 _ hm
        have h2 : z.data.toList.length = z.size := Array.length_toList
        rw [hlen] at h1
        refine ⟨fun e => h1.1 (List.eq_nil_of_length_eq_zero (by rw [h2]; exact e)), ?_⟩
        have := hlsH.out
        omega) (by have := hlsH.out; omega) (HK.out.below B4.out) (HL.out.below B4.out)
    rw [← hze, hwdH.out, hrl] at HSt
    have HSH := Lib.hid HSt
    clear HSt hwo hlen hrl hNWb hze
    go_wp2_with fail
    refine HSH.out.mono ?_
    rintro e' w5 ⟨hbel5, hpost⟩
    have hB4k := hB4
    have P5 := Lib.hid (P4.out.below hbel5)
    have RA5 := Lib.hid (RA4.out.below hbel5 RA4.out.lt)
    have LB5 := Lib.hid (LB4.out.below hbel5 LB4.out.lt)
    have B5 := Lib.hid (B4.out.trans (hbel5.mono B4.out.size))
    have hB5 : Hid (B ≤ w5.heap.size) := Nat.le_trans hB4.out hbel5.size
    clear P4 RA4 LB4 B4 hB4
    cases hst : stepW (wordsB ln.data.toList) with
    | error c1 =>
      have hpost1 : e' = .returned (.tuple #[.agg #[.int .i64 0, .slice none 0 0, .string ⟨#[]⟩], .int .i64 c1]) := by rw [hst] at hpost; exact hpost
      clear hpost HSH hbel5 HR4
      subst hpost1
      have hF : Hid (parseS text.data.toList = ⟨noScr, k + 1, c1⟩) := by unfold Hid; rw [hRH.out, readL_step hbbH.out hcbH.out hv.out htbH.out, hst]
      have d5 : (c1 != 0) = true := by rw [bne_iff_ne]; exact stepW_err hst
      clear hst
      go_upto_region 25 with fail
      refine world_is (P := fun W => Code.wp _ _ _ _ W) (fun W6 hW6 => ?_)
      have hb6 : Below w5.heap.size w5 W6 := by rw [← hW6]; exact (Below.refl _ _).alloc (Nat.le_refl _) _
      clear hW6
      have P6 := Lib.hid (P5.out.below hb6)
      have RA6 := Lib.hid (RA5.out.below hb6 RA5.out.lt)
      have LB6 := Lib.hid (LB5.out.below hb6 LB5.out.lt)
      have B6 := Lib.hid (B5.out.trans (hb6.mono B5.out.size))
      have hB6 : Hid (B ≤ W6.heap.size) := Nat.le_trans hB5.out hb6.size
      clear P5 RA5 LB5 B5 hB5
      clear hb6
      have r0 := RA6.out.cell 0
      have r1 := RA6.out.cell 1
      have f0 := RA6.out.frozen 0
      have f1 := RA6.out.frozen 1
      go_wp2_with fail
      (try rw [Exit.noGoto_ret])
      rw [hF.out]
      exact bodyPost_ret (results_ctt (P := Tryz.prog) rfl _ _ ra 25 #[.slice none 0 0, .slice none 0 0] _ rfl ((RA6.out.set_ 0 _).set_ 1 _) Tryz.underlying25 rfl (by kernel_rfl)) rfl (post_no ((B6.out.setCell (p := ⟨ra, 0, none⟩) hra.out _).setCell (p := ⟨ra, 1, none⟩) hra.out _))
    | ok x =>
      have hpost1 : ∃ va, e' = .returned (.tuple #[.agg #[.int .i64 x.kind, va, .string x.text], .int .i64 0]) ∧ w5.ownsRow w4.heap.size 3 1 va x.args.length (intsC x.args) ∧ x.args.length ≤ 100000000 ∧ x.text.size ≤ 200000000 := by rw [hst] at hpost; exact hpost
      clear hpost HSH hbel5
      obtain ⟨va, rfl, hra5, hx1, hx2⟩ := hpost1
      have hF : Hid (parseS text.data.toList = readL rest (k + 1) ⟨s.texts, s.steps ++ [x]⟩ false e) := by unfold Hid; rw [hRH.out, readL_step hbbH.out hcbH.out hv.out htbH.out, hst]
      have hin := Lib.hid (stepW_in hst hx1 hx2)
      obtain ⟨Aa, Ca, eva⟩ := own_slice hra5
      subst eva
      have hraH := Lib.hid hra5
      clear hst hra5 hx1 hx2
      go_upto_region 25 with fail
      refine world_is (P := fun W => Code.wp _ _ _ _ W) (fun W6 hW6 => ?_)
      have hb6 : Below w5.heap.size w5 W6 := by rw [← hW6]; exact (Below.refl _ _).alloc (Nat.le_refl _) _
      have X6 : Hid (Blk W6 w5.heap.size 53 #[.int .i64 x.kind, .slice Aa x.args.length Ca, .string x.text]) := by unfold Hid; rw [← hW6]; exact Blk.new _ _ _
      obtain ⟨sx, esx⟩ : ∃ g, w5.heap.size = g := ⟨_, rfl⟩
      rw [esx] at X6 ⊢
      have hra6 : Hid (W6.ownsRow B 3 1 (.slice Aa x.args.length Ca) x.args.length (intsC x.args)) := own_keepB (own_mono hraH.out hB4k.out) hb6
      clear hW6 esx
      have P6 := Lib.hid (P5.out.below hb6)
      have RA6 := Lib.hid (RA5.out.below hb6 RA5.out.lt)
      have LB6 := Lib.hid (LB5.out.below hb6 LB5.out.lt)
      have B6 := Lib.hid (B5.out.trans (hb6.mono B5.out.size))
      have hB6 : Hid (B ≤ W6.heap.size) := Nat.le_trans hB5.out hb6.size
      clear P5 RA5 LB5 B5 hB5
      clear hb6 hraH
      have ho1 : ∀ u ∈ (#[Value.int .i64 x.kind, .slice Aa x.args.length Ca, .string x.text] : Array Value).toList, u.oneCell' = true := by
        intro u hu
        simp only [List.mem_cons, List.not_mem_nil, or_false] at hu
        rcases hu with rfl | rfl | rfl <;> rfl
      obtain ⟨As, Cs, evs⟩ := own_slice P6.out.stp
      subst evs
      have s1 := P6.out.blk.cell 1
      have x0 := X6.out.cell 0
      have x1 := X6.out.cell 1
      have x2 := X6.out.cell 2
      have hlS : Hid (s.steps.length + 1 ≤ 1000000000) := by unfold Hid; have := hslH.out; omega
      have hls : Hid (lb ≠ sb) := fun e => Blk.ne_ (e ▸ LB6.out) P6.out.blk (by decide) rfl
      go_upto_region 28 with (refine wp_gpush_list 23 53 (.agg #[.int .i64 0, .slice none 0 0, .string ⟨#[]⟩]) 3 48 Tryz.underlying23 (by kernel_rfl) rfl (by decide) (by decide) rfl _ _ rfl B (.slice As s.steps.length Cs) s.steps.length (stepsC s.steps us) rfl P6.out.stp 1 1 #[.int .i64 x.kind, .slice Aa x.args.length Ca, .string x.text] rfl rfl ho1 hlS.out hB6.out ?_; intro v9 w9 hP9; obtain ⟨A9, C9, rfl⟩ := own_slice hP9.row; have q9 := (P6.out.blk.grown hP9.grown (Ne.symm (own_blk_ne P6.out.stp P6.out.blk (by decide)))).cell 1; have f9 := (P6.out.blk.grown hP9.grown (Ne.symm (own_blk_ne P6.out.stp P6.out.blk (by decide)))).frozen 1)
      have P9 := Lib.hid (P6.out.steps hra6.out hP9.grown hP9.row)
      have RA9 := Lib.hid ((RA6.out.grown hP9.grown (Ne.symm (own_blk_ne P6.out.stp RA6.out (by decide)))).other (a := ⟨sb, 1, none⟩) (Ne.symm hsr.out) (.slice A9 (s.steps.length + 1) C9))
      have LB9 := Lib.hid ((LB6.out.grown hP9.grown (Ne.symm (own_blk_ne P6.out.stp LB6.out (by decide)))).other (a := ⟨sb, 1, none⟩) hls.out (.slice A9 (s.steps.length + 1) C9))
      have B9 := Lib.hid ((hP9.bel w.heap.size w hwB.out hB6.out B6.out).setCell (p := ⟨sb, 1, none⟩) hwsb.out (.slice A9 (s.steps.length + 1) C9))
      have hB9 := Lib.hid (le_setCell (Nat.le_trans hB6.out hP9.grown.size) ⟨sb, 1, none⟩ (.slice A9 (s.steps.length + 1) C9))
      clear hP9 q9 f9 s1 x0 x1 x2
      go_wp2_with fail
      go_roundw
      case rel =>
        refine ⟨k + 1, false, e, ⟨s.texts, s.steps ++ [x]⟩, _, _, us ++ [_], by go_num, rfl, rfl, by go_num, hltH.out, Nat.le_succ_of_le htlH.out, (by show (s.steps ++ [_]).length ≤ k + 1; rw [List.length_append]; exact Nat.succ_le_succ hslH.out), ?_, (fun h => by cases h), hT'.out, (fun y hy => (List.mem_append.1 hy).elim (hSI.out y) (fun h => by rw [List.mem_singleton.1 h]; exact hin.out)), P9.out, RA9.out, LB9.out, B9.out, hB9.out⟩
        unfold Hid
        rw [hrestH.out]
        exact hF.out
      case measure => have := hltH.out; simp [intOf]; omega
end Go.Proofs.YtldkfhimpkiigaaGreatDoor
