/-
  Layer 12 (parse), the specification's Parse.
  Layer 12 (parse): the walk of the statement that Parse does as specified.
-/
import Derived.Test.YtemhiiignamkjaaDoorMV
import Derived.Test.YtemhiiignamkjaaDoorParR2
import Derived.Test.YtemhiiignamkjaaDoorParV9
import Derived.Test.YtemhiiignamkjaaDoorMZ
namespace Go.Proofs.YtemhiiignamkjaaDoor
open Go.RowKit LexP ParP
attribute [local go_sem] Oper.semAt_some

theorem rows_nil (w : World) (B : Nat) : RowsA w B (rdRows (.slice none 0 0) (.slice none 0 0) (.slice none 0 0) (.slice none 0 0) (.slice none 0 0) (.slice none 0 0) (.slice none 0 0) [] [] [] [] [] [] []) := by
  have h : ∀ (i : Nat) (r : RowD), (rdRows (.slice none 0 0) (.slice none 0 0) (.slice none 0 0) (.slice none 0 0) (.slice none 0 0) (.slice none 0 0) (.slice none 0 0) [] [] [] [] [] [] [])[i]? = some r → r.v = .slice none 0 0 ∧ r.n = 0 ∧ r.xs = [] := fun i r hr => by
    have := List.mem_iff_getElem?.2 ⟨i, hr⟩
    simp only [rdRows, List.mem_cons, List.not_mem_nil, or_false] at this
    rcases this with rfl | rfl | rfl | rfl | rfl | rfl | rfl <;> exact ⟨rfl, rfl, rfl⟩
  refine ⟨fun i r hr => ?_, fun i j a b ha hb _ c hc => ?_⟩
  · obtain ⟨h1, h2, h3⟩ := h i r hr
    rw [h1, h2, h3]
    exact World.ownsRow_nil _ _ _ _
  · rw [(h i a ha).1] at hc
    cases hc
theorem TkAt.mono {w : World} {B B' : Nat} {v : Value} {l : List Tok} (h : TkAt w B v l) (hB : B ≤ B') : TkAt w B' v l := by
  obtain ⟨A, c, rfl, h⟩ := h
  refine ⟨A, c, rfl, fun hl => ?_⟩
  obtain ⟨b, o, h1, h2, h3⟩ := h hl
  exact ⟨b, o, h1, Nat.lt_of_lt_of_le h2 hB, h3⟩
theorem mainR_meas {w : World} {B g n : Nat} {b : Bool} {tv nm : Value} {l : List Tok} {R : Rd St} (h : MainR w B g tv nm l R n b) : rdMeas l g w = 2 * (l.length - n) + (if b then 0 else 1) := by
  cases b with
  | true =>
    obtain ⟨_, _, _, _, _, _, _, _, _, _, h⟩ := h
    exact rdMeas_is h
  | false =>
    obtain ⟨_, st, _, ⟨_, _, _, _, _, _, _, h, _⟩, _⟩ := h
    exact rdMeas_is h
/-- Where the tokens do not fit. -/
theorem parse_bad {s : ByteArray} {l : List Tok} {n : Nat} (htk : tokens s = .ok l) (hp : policy l = .bad (l.drop n)) : parse s = ⟨noPol, match l[n]? with | some t => t.pos | none => s.size, 3⟩ := by
  unfold parse
  rw [htk]
  dsimp only
  rw [hp]
  cases h : l[n]? with
  | some t => rw [drop_at_ h]
  | none => rw [List.drop_eq_nil_of_le (by rw [List.getElem?_eq_none_iff] at h; exact h)]
/-- What the specification's Parse leaves. -/
def RParsePost (w : World) (o : Out) (e : Ending) (w' : World) : Prop :=
  ∃ vt vr vq, e = .returned (.agg #[.string o.pol.name, vt, vr, vq, .int .i64 o.pos, .int .i64 o.err]) ∧ PolIs w' w.heap.size (.agg #[.string o.pol.name, vt, vr, vq]) o.pol ∧ Below w.heap.size w w'
theorem rpost_no {w w' : World} {p : Nat} {e : Int} (hB : Below w.heap.size w w') : RParsePost w ⟨noPol, p, e⟩ (.returned (.agg #[.string ⟨#[]⟩, .slice none 0 0, .slice none 0 0, .slice none 0 0, .int .i64 p, .int .i64 e])) w' :=
  ⟨_, _, _, rfl, polIs_no _ _, hB⟩
theorem below6 {w w' : World} {B a : Nat} (h : Below B w w') (ha : B ≤ a) (u0 u1 u2 u3 u4 u5 : Value) : Below B w ((((((w'.setCell ⟨a, 0, none⟩ u0).setCell ⟨a, 1, none⟩ u1).setCell ⟨a, 2, none⟩ u2).setCell ⟨a, 3, none⟩ u3).setCell ⟨a, 4, none⟩ u4).setCell ⟨a, 5, none⟩ u5) :=
  (((((h.setCell (p := ⟨a, 0, none⟩) ha _).setCell (p := ⟨a, 1, none⟩) ha _).setCell (p := ⟨a, 2, none⟩) ha _).setCell (p := ⟨a, 3, none⟩) ha _).setCell (p := ⟨a, 4, none⟩) ha _).setCell (p := ⟨a, 5, none⟩) ha _
theorem commands_word {s : ByteArray} {l : List Tok} (htk : tokens s = .ok l) : ∀ t ∈ l, 0 < commandN t.text → isWordT t = true := fun t ht hc => by
  have hg := good_of_chain (tokens_chain s l htk).2 t ht
  have hl : findW commandWords t.text < commandWords.length := by
    unfold commandN at hc
    split at hc
    · assumption
    · omega
  have h2 := List.findIdx_getElem (xs := commandWords) (p := fun x : ByteArray => x.toList == t.text.toList) (w := hl)
  have h3 := good_commands _ (List.getElem_mem hl)
  rw [show commandWords[findW commandWords t.text] = t.text from text_eq_iff.1 h2] at h3
  have h4 := h3.tok
  rw [show (tW t.text).text = t.text from rfl, hg.tok] at h4
  have h5 : t.kind = 1 := congrArg Prod.fst h4
  unfold isWordT
  rw [h5]
  rfl
set_option maxRecDepth 100000 in
set_option maxHeartbeats 25600000 in
theorem rParse_any (s : ByteArray) (w : World) (hs : s.size ≤ 1048576) : Calls Tryd.prog 11 #[.string s] w (RParsePost w (parse s)) := by
  have hTK := Lib.hid (fun wx => ref_Tokens_any s wx hs)
  have hs2 : s.size ≤ 9223372036854775807 := Nat.le_trans hs (by decide)
  clear hs
  go_enter Tryd.func11, Tryd.ntmps11
  go_upto_region 1 with fail
  refine world_is (P := fun W => Code.wp _ _ _ _ W) (fun W0 hW0 => ?_)
  have hB0 : Below w.heap.size w W0 := by rw [← hW0]; exact (Below.refl _ _).alloc (Nat.le_refl _) _
  have RA0 : Hid (Blk W0 w.heap.size 32 #[.string ⟨#[]⟩, .slice none 0 0, .slice none 0 0, .slice none 0 0, .int .i64 0, .int .i64 0]) := by unfold Hid; rw [← hW0]; exact Blk.new _ _ _
  have L0 := Lib.hid hB0
  obtain ⟨ra, era⟩ : ∃ x, w.heap.size = x := ⟨_, rfl⟩
  have hra : Hid (w.heap.size ≤ ra) := Nat.le_of_eq era
  rw [era] at RA0 ⊢
  clear hW0 hB0 era
  go_wp2_with fail
  refine (hTK.out W0).mono ?_
  rintro e w1 ⟨v, pos, err, rfl, hres, hB1⟩
  have RA1 := Lib.hid (RA0.out.below hB1 RA0.out.lt)
  have L1 := Lib.hid (L0.out.trans (hB1.mono L0.out.size))
  clear hTK RA0 L0 hB1
  cases htk : tokens s
  case err a0 e0 =>
    rw [htk] at hres
    obtain ⟨rfl, rfl, rfl⟩ := hres
    have hne := tokens_errs htk
    have d1 : (err != 0) = true := by simpa using hne
    have hPa : Hid (parse s = ⟨noPol, a0, err⟩) := by unfold Hid parse; rw [htk]
    clear htk
    go_upto_region 2 with fail
    refine world_is (P := fun W => Code.wp _ _ _ _ W) (fun W2 hW2 => ?_)
    have hB2 : Below w1.heap.size w1 W2 := by rw [← hW2]; exact (Below.refl _ _).alloc (Nat.le_refl _) _
    have X2 : Hid (Blk W2 w1.heap.size 44 #[.slice none 0 0, .int .i64 (a0 : Int), .int .i64 err]) := by unfold Hid; rw [← hW2]; exact Blk.new _ _ _
    have RA2 := Lib.hid (RA1.out.below hB2 RA1.out.lt)
    have L2 := Lib.hid (L1.out.trans (hB2.mono L1.out.size))
    have hxr : w1.heap.size ≠ ra := Nat.ne_of_gt RA1.out.lt
    obtain ⟨x, ex⟩ : ∃ x, w1.heap.size = x := ⟨_, rfl⟩
    rw [ex] at X2 hxr ⊢
    have c1 := X2.out.cell 1
    have c2 := X2.out.cell 2
    have r0 : W2.cell? ⟨ra, 0, none⟩ = some (.string ⟨#[]⟩) := RA2.out.cell 0
    have r1 : W2.cell? ⟨ra, 1, none⟩ = some (.slice none 0 0) := RA2.out.cell 1
    have r2 : W2.cell? ⟨ra, 2, none⟩ = some (.slice none 0 0) := RA2.out.cell 2
    have r3 : W2.cell? ⟨ra, 3, none⟩ = some (.slice none 0 0) := RA2.out.cell 3
    have r4 : W2.cell? ⟨ra, 4, none⟩ = some (.int .i64 0) := RA2.out.cell 4
    have r5 : W2.cell? ⟨ra, 5, none⟩ = some (.int .i64 0) := RA2.out.cell 5
    have f0 := RA2.out.frozen 0
    have f1 := RA2.out.frozen 1
    have f2 := RA2.out.frozen 2
    have f3 := RA2.out.frozen 3
    have f4 := RA2.out.frozen 4
    have f5 := RA2.out.frozen 5
    clear hW2 hB2 RA1 L1 ex
    go_wp2_with fail
    rw [hPa.out]
    exact bodyPost_ret (results_c (P := Tryd.prog) rfl _ _ ra 32 #[.string ⟨#[]⟩, .slice none 0 0, .slice none 0 0, .slice none 0 0, .int .i64 (a0 : Int), .int .i64 err] _ rfl ((((((RA2.out.set_ 0 _).set_ 1 _).set_ 2 _).set_ 3 _).set_ 4 _).set_ 5 _) Tryd.underlying32 rfl (by kernel_rfl)) rfl (rpost_no (below6 L2.out hra.out _ _ _ _ _ _))

  case ok l =>
  rw [htk] at hres
  obtain ⟨rfl, rfl, hown⟩ := hres
  obtain ⟨hs4, hll, htx⟩ := tokens_facts htk
  have hl4 : l.length ≤ 4000 := Nat.le_trans hll hs4
  have HTX := Lib.hid htx
  have hWd := Lib.hid (commands_word htk)
  have htkH := Lib.hid htk
  have T1 := Lib.hid (tkAt_own hown)
  obtain ⟨A, c, rfl⟩ := own_slice hown
  clear htk hown htx hll hs4
  go_upto_region 2 with fail
  refine world_is (P := fun W => Code.wp _ _ _ _ W) (fun W2 hW2 => ?_)
  have hB2 : Below w1.heap.size w1 W2 := by rw [← hW2]; exact (Below.refl _ _).alloc (Nat.le_refl _) _
  have X2 : Hid (Blk W2 w1.heap.size 44 #[.slice A l.length c, .int .i64 0, .int .i64 0]) := by unfold Hid; rw [← hW2]; exact Blk.new _ _ _
  have RA2 := Lib.hid (RA1.out.below hB2 RA1.out.lt)
  have L2 := Lib.hid (L1.out.trans (hB2.mono L1.out.size))
  have T2 : Hid (TkAt W2 W2.heap.size (.slice A l.length c) l) := (T1.out.below hB2).mono hB2.size
  obtain ⟨x, ex⟩ : ∃ x, w1.heap.size = x := ⟨_, rfl⟩
  rw [ex] at X2 ⊢
  have c0 := X2.out.cell 0
  have c2 := X2.out.cell 2
  clear hW2 hB2 RA1 L1 T1 ex
  go_upto_region 5 with fail
  refine world_is (P := fun W => Code.wp _ _ _ _ W) (fun W3 hW3 => ?_)
  have hB3 : Below W2.heap.size W2 W3 := by rw [← hW3]; exact (Below.refl _ _).alloc (Nat.le_refl _) _
  have HP3 : Hid (Blk W3 W2.heap.size 71 #[.slice A l.length c, .int .i64 ((0 : Nat) : Int), .bool false, .string ⟨#[]⟩, .slice none 0 0, .slice none 0 0, .slice none 0 0, .slice none 0 0, .slice none 0 0, .slice none 0 0, .slice none 0 0]) := by unfold Hid; rw [← hW3]; exact Blk.new _ _ _
  have RA3 := Lib.hid (RA2.out.below hB3 RA2.out.lt)
  have L3 := Lib.hid (L2.out.trans (hB3.mono L2.out.size))
  have T3 := Lib.hid (T2.out.below hB3)
  have hrag : Hid (ra < W2.heap.size) := RA2.out.lt
  have hwg : Hid (w.heap.size ≤ W2.heap.size) := L2.out.size
  obtain ⟨g, eg⟩ : ∃ x, W2.heap.size = x := ⟨_, rfl⟩
  rw [eg] at HP3 T3 hrag hwg ⊢
  clear hW3 hB3 RA2 L2 T2 X2 c0 c2 eg
  have hl2 : l.length ≤ 1048576 := Nat.le_trans hl4 (by decide)
  have K3 : Hid (Sk l 0 false (Rd.ok l ())) := by have h := Sk.start (l := l) (Nat.zero_le _) (); rw [List.drop_zero] at h; exact h
  go_wp2_with fail
  refine (rsign_any W3 g g 0 false ⟨#[112, 111, 108, 105, 99, 121]⟩ (.slice A l.length c) (.string ⟨#[]⟩) (.slice none 0 0) (.slice none 0 0) (.slice none 0 0) (.slice none 0 0) (.slice none 0 0) (.slice none 0 0) (.slice none 0 0) l (Rd.ok l ()) HP3.out T3.out K3.out hl2).mono ?_
  rintro e W4 ⟨rfl, n4, b4, hk4, hb4, hG4⟩
  obtain ⟨r1, hr9⟩ : ∃ r, thenTake (Rd.ok l ()) (isText ⟨#[112, 111, 108, 105, 99, 121]⟩) = r := ⟨_, rfl⟩
  rw [hr9] at hk4
  have Er1 := Lib.hid hr9
  clear hr9
  have hB9 : Below g W3 W4 := grown_below hG4 (Nat.le_refl _) HP3.out.lt
  have RA4 := Lib.hid (RA3.out.below hB9 hrag.out)
  have L4 := Lib.hid (L3.out.trans (hB9.mono hwg.out))
  have T4 := Lib.hid (T3.out.below hB9)
  have HP4 := Lib.hid hb4
  have K4 := Lib.hid hk4
  clear hB9 hG4 hb4 hk4 RA3 L3 T3 HP3 K3
  go_wp2_with fail
  refine (rtoken_any W4 g g n4 1 b4 isWordT (fun _ => rfl) (.slice A l.length c) (.string ⟨#[]⟩) (.slice none 0 0) (.slice none 0 0) (.slice none 0 0) (.slice none 0 0) (.slice none 0 0) (.slice none 0 0) (.slice none 0 0) l r1 HP4.out T4.out K4.out (Nat.le_refl _) hl2).mono ?_
  rintro e W5 ⟨rfl, n5, b5, hk5, hb5, hG5⟩
  obtain ⟨r2, hr9⟩ : ∃ r, thenTake r1 isWordT = r := ⟨_, rfl⟩
  rw [hr9] at hk5 ⊢
  have Er2 := Lib.hid hr9
  clear hr9
  have hB9 : Below g W4 W5 := grown_below hG5 (Nat.le_refl _) HP4.out.lt
  have RA5 := Lib.hid (RA4.out.below hB9 hrag.out)
  have L5 := Lib.hid (L4.out.trans (hB9.mono hwg.out))
  have T5 := Lib.hid (T4.out.below hB9)
  have HP5 := Lib.hid hb5
  have K5 := Lib.hid hk5
  clear hB9 hG5 hb5 hk5 RA4 L4 T4 HP4 K4
  obtain ⟨t2, ht9⟩ : ∃ t, tokV r2 = t := ⟨_, rfl⟩
  rw [ht9]
  have Vr2 := Lib.hid ht9
  clear ht9
  unfold tokAgg
  have hfld := tok_text t2.kind t2.text t2.n t2.pos
  have o3 := HP5.out.cell 3
  have of3 := HP5.out.frozen 3
  go_upto_region 7 with fail
  refine world_is (P := fun W => Code.wp _ _ _ _ W) (fun W6 hW9 => ?_)
  have hG6 : W5.grownBy W6 (some g) := by rw [← hW9]; exact grown_ofSet _ _ _ _
  have hb6 : Blk W6 g 71 #[.slice A l.length c, .int .i64 (n5 : Int), .bool b5, .string t2.text, .slice none 0 0, .slice none 0 0, .slice none 0 0, .slice none 0 0, .slice none 0 0, .slice none 0 0, .slice none 0 0] := by rw [← hW9]; exact HP5.out.set_ 3 _
  have hk6 := K5.out
  clear hW9 hfld o3 of3
  have hB9 : Below g W5 W6 := grown_below hG6 (Nat.le_refl _) HP5.out.lt
  have RA6 := Lib.hid (RA5.out.below hB9 hrag.out)
  have L6 := Lib.hid (L5.out.trans (hB9.mono hwg.out))
  have T6 := Lib.hid (T5.out.below hB9)
  have HP6 := Lib.hid hb6
  have K6 := Lib.hid hk6
  clear hB9 hG6 hb6 hk6 RA5 L5 T5 HP5 K5
  go_wp2_with fail
  refine (rsign_any W6 g g n5 b5 ⟨#[123]⟩ (.slice A l.length c) (.string t2.text) (.slice none 0 0) (.slice none 0 0) (.slice none 0 0) (.slice none 0 0) (.slice none 0 0) (.slice none 0 0) (.slice none 0 0) l r2 HP6.out T6.out K6.out hl2).mono ?_
  rintro e W7 ⟨rfl, n7, b7, hk7, hb7, hG7⟩
  obtain ⟨r3, hr9⟩ : ∃ r, thenTake r2 (isText ⟨#[123]⟩) = r := ⟨_, rfl⟩
  rw [hr9] at hk7
  have Er3 := Lib.hid hr9
  clear hr9
  have hB9 : Below g W6 W7 := grown_below hG7 (Nat.le_refl _) HP6.out.lt
  have RA7 := Lib.hid (RA6.out.below hB9 hrag.out)
  have L7 := Lib.hid (L6.out.trans (hB9.mono hwg.out))
  have T7 := Lib.hid (T6.out.below hB9)
  have HP7 := Lib.hid hb7
  have K7 := Lib.hid hk7
  clear hB9 hG7 hb7 hk7 RA6 L6 T6 HP6 K6
  obtain ⟨R, hR1, hR2, hR3⟩ := pol_start Er1.out Er2.out Er3.out K7.out
  rw [Vr2.out] at hR1
  have hPol := Lib.hid hR1
  have hM7 : Hid (MainR W7 g g (.slice A l.length c) (.string t2.text) l R n7 b7) := by
    refine ⟨K7.out.1, ?_⟩
    cases b7 with
    | false => exact ⟨⟨[], [], []⟩, hR3 rfl, ⟨_, _, _, _, _, _, _, HP7.out, rows_nil _ _⟩, Nat.zero_le _, Nat.zero_le _, Nat.zero_le _⟩
    | true => exact ⟨hR2 rfl, _, _, _, _, _, _, _, _, HP7.out⟩
  clear hR1 hR2 hR3 Er1 Er2 Er3 K7 HP7 Vr2
  go_wp2_with fail
  go_loopw [5] (fun _ wr => ∃ (n : Nat) (b : Bool), Hid (MainR wr g g (.slice A l.length c) (.string t2.text) l R n b) ∧ Hid (Below g W7 wr)) (fun _ wr => rdMeas l g wr)
  case atStart => exact ⟨n7, b7, hM7.out, Below.refl _ _⟩
  case round =>
  obtain ⟨n, b, hM, hLr⟩ := hrel
  obtain ⟨w9, hw9⟩ : ∃ x, x = wr := ⟨_, rfl⟩
  subst hw9
  have RA9 := Lib.hid (RA7.out.below hLr.out hrag.out)
  have L9 := Lib.hid (L7.out.trans (hLr.out.mono hwg.out))
  have T9 := Lib.hid (T7.out.below hLr.out)
  clear RA7 L7 T7 hM7
  cases b
  case true =>
    obtain ⟨hn, hR, c3, c4, c5, c6, c7, c8, c9, c10, hb9⟩ := id hM.out
    have HP9 := Lib.hid hb9
    have y2 := hb9.cell 2
    clear hM hb9
    go_wp2_with fail
    refine (rsign_any w9 g g n true ⟨#[125]⟩ _ c3 c4 c5 c6 c7 c8 c9 c10 l (Rd.bad (l.drop n) : Rd St) HP9.out T9.out (sk_bad hn) hl2).mono ?_
    rintro e W10 ⟨rfl, n10, b10, hk10, hb10, hG10⟩
    obtain ⟨e1, e2⟩ := Sk.eq (sk_bad hn).stays.1 hk10
    subst e1 e2
    have hB10 : Below g w9 W10 := grown_below hG10 (Nat.le_refl _) HP9.out.lt
    have RA10 := Lib.hid (RA9.out.below hB10 hrag.out)
    have L10 := Lib.hid (L9.out.trans (hB10.mono hwg.out))
    have T10 := Lib.hid (T9.out.below hB10)
    have HP10 := Lib.hid hb10
    clear hB10 hG10 hk10 hb10 HP9 RA9 L9 T9 y2
    by_cases hlt : n10 < l.length
    case pos =>
      have hpb : policy l = .bad (l.drop (n10)) := by
        rw [hPol.out]
        rw [hR]; rfl
      have y0 := HP10.out.cell 0
      have y1 := HP10.out.cell 1
      have y2 := HP10.out.cell 2
      obtain ⟨T, hTn⟩ : ∃ T, l[n10]? = some T := ⟨_, List.getElem?_eq_getElem hlt⟩
      have hPa : Hid (parse s = ⟨noPol, T.pos, 3⟩) := by unfold Hid; rw [parse_bad htkH.out hpb, hTn]
      obtain ⟨tb, tf, rfl, htb, k0, k1, k2, k3⟩ := T10.out.at_ (n10) T hTn
      have d2 : decide (((n10 : Nat) : Int) < (l.length : Int)) = true := decide_eq_true (by omega)
      have d3 : decide (n10 < l.length) = true := decide_eq_true hlt
      have q0 : (0 : Int) ≤ ((n10 : Nat) : Int) := by omega
      have q1 : ((n10 : Nat) : Int) < (l.length : Int) := by omega
      clear hpb hTn hlt htb k0 k1 k2
      go_wp2_with fail
      go_quiet (fail)
      go_wp2_with fail
      go_quiet (fail)
      go_wp2_with fail
      go_quiet (fail)
      go_upto_region 22 with fail
      refine world_is (P := fun W => Code.wp _ _ _ _ W) (fun W20 hW9 => ?_)
      have hB9 : Below W10.heap.size W10 W20 := by rw [← hW9]; exact ⟨rfl, rfl, rfl, Nat.le_refl _, fun _ _ => rfl⟩
      have RA20 := Lib.hid (RA10.out.below hB9 RA10.out.lt)
      have L20 := Lib.hid (L10.out.trans (hB9.mono L10.out.size))
      clear hW9 hB9 y0 y1 y2
      have r0 : W20.cell? ⟨ra, 0, none⟩ = some (.string ⟨#[]⟩) := RA20.out.cell 0
      have r1 : W20.cell? ⟨ra, 1, none⟩ = some (.slice none 0 0) := RA20.out.cell 1
      have r2 : W20.cell? ⟨ra, 2, none⟩ = some (.slice none 0 0) := RA20.out.cell 2
      have r3 : W20.cell? ⟨ra, 3, none⟩ = some (.slice none 0 0) := RA20.out.cell 3
      have r4 : W20.cell? ⟨ra, 4, none⟩ = some (.int .i64 0) := RA20.out.cell 4
      have r5 : W20.cell? ⟨ra, 5, none⟩ = some (.int .i64 0) := RA20.out.cell 5
      have f0 := RA20.out.frozen 0
      have f1 := RA20.out.frozen 1
      have f2 := RA20.out.frozen 2
      have f3 := RA20.out.frozen 3
      have f4 := RA20.out.frozen 4
      have f5 := RA20.out.frozen 5
      go_wp2_with fail
      rw [hPa.out]
      exact bodyPost_ret (results_c (P := Tryd.prog) rfl _ _ ra 32 #[.string ⟨#[]⟩, .slice none 0 0, .slice none 0 0, .slice none 0 0, .int .i64 (T.pos : Int), .int .i64 3] _ rfl ((((((RA20.out.set_ 0 _).set_ 1 _).set_ 2 _).set_ 3 _).set_ 4 _).set_ 5 _) Tryd.underlying32 rfl (by kernel_rfl)) rfl (rpost_no (below6 L20.out hra.out _ _ _ _ _ _))
    case neg =>
      have hpb : policy l = .bad (l.drop (n10)) := by
        rw [hPol.out]
        rw [hR]; rfl
      have y0 := HP10.out.cell 0
      have y1 := HP10.out.cell 1
      have y2 := HP10.out.cell 2
      have hPa : Hid (parse s = ⟨noPol, s.size, 3⟩) := by unfold Hid; rw [parse_bad htkH.out hpb, List.getElem?_eq_none (Nat.le_of_not_lt hlt)]
      have d2 : decide (((n10 : Nat) : Int) < (l.length : Int)) = false := decide_eq_false (by omega)
      have d3 : decide (n10 < l.length) = false := decide_eq_false hlt
      clear hpb hlt
      go_wp2_with fail
      go_quiet (fail)
      go_wp2_with fail
      go_quiet (fail)
      go_upto_region 22 with fail
      refine world_is (P := fun W => Code.wp _ _ _ _ W) (fun W20 hW9 => ?_)
      have hB9 : Below W10.heap.size W10 W20 := by rw [← hW9]; exact ⟨rfl, rfl, rfl, Nat.le_refl _, fun _ _ => rfl⟩
      have RA20 := Lib.hid (RA10.out.below hB9 RA10.out.lt)
      have L20 := Lib.hid (L10.out.trans (hB9.mono L10.out.size))
      clear hW9 hB9 y0 y1 y2
      have r0 : W20.cell? ⟨ra, 0, none⟩ = some (.string ⟨#[]⟩) := RA20.out.cell 0
      have r1 : W20.cell? ⟨ra, 1, none⟩ = some (.slice none 0 0) := RA20.out.cell 1
      have r2 : W20.cell? ⟨ra, 2, none⟩ = some (.slice none 0 0) := RA20.out.cell 2
      have r3 : W20.cell? ⟨ra, 3, none⟩ = some (.slice none 0 0) := RA20.out.cell 3
      have r4 : W20.cell? ⟨ra, 4, none⟩ = some (.int .i64 0) := RA20.out.cell 4
      have r5 : W20.cell? ⟨ra, 5, none⟩ = some (.int .i64 0) := RA20.out.cell 5
      have f0 := RA20.out.frozen 0
      have f1 := RA20.out.frozen 1
      have f2 := RA20.out.frozen 2
      have f3 := RA20.out.frozen 3
      have f4 := RA20.out.frozen 4
      have f5 := RA20.out.frozen 5
      go_wp2_with fail
      rw [hPa.out]
      exact bodyPost_ret (results_c (P := Tryd.prog) rfl _ _ ra 32 #[.string ⟨#[]⟩, .slice none 0 0, .slice none 0 0, .slice none 0 0, .int .i64 (s.size : Int), .int .i64 3] _ rfl ((((((RA20.out.set_ 0 _).set_ 1 _).set_ 2 _).set_ 3 _).set_ 4 _).set_ 5 _) Tryd.underlying32 rfl (by kernel_rfl)) rfl (rpost_no (below6 L20.out hra.out _ _ _ _ _ _))
  case false =>
    obtain ⟨hn, st, hR, hRD, hst1, hst2, hst3⟩ := id hM.out
    have hM9 := Lib.hid (mainR_meas hM.out)
    have hR := Lib.hid hR
    obtain ⟨vt, vr, vq, va, vf, vs, vk, hb9, hr9⟩ := id hRD
    have HP9 := Lib.hid hb9
    have y2 := hb9.cell 2
    have HR9 := Lib.hid hr9
    clear hM hb9 hr9 hRD
    go_wp2_with fail
    refine (ris_any w9 g g n false ⟨#[125]⟩ _ _ _ _ _ _ _ _ _ l HP9.out T9.out).mono ?_
    rintro e W10 ⟨rfl, hBs⟩
    have hB10 : Below g w9 W10 := hBs.mono (Nat.le_of_lt HP9.out.lt)
    have HR10 := Lib.hid (HR9.out.below hBs)
    have L7b := Lib.hid (hLr.out.trans hB10)
    have RA10 := Lib.hid (RA9.out.below hB10 hrag.out)
    have L10 := Lib.hid (L9.out.trans (hB10.mono hwg.out))
    have T10 := Lib.hid (T9.out.below hB10)
    have HP10 := Lib.hid (HP9.out.below hBs HP9.out.lt)
    clear hB10 hBs HP9 RA9 L9 T9 HR9 y2 hLr
    obtain ⟨z, hz⟩ : ∃ z, isB l n ⟨#[125]⟩ = z := ⟨_, rfl⟩
    rw [hz]
    have hzH := Lib.hid hz
    clear hz
    cases z
    case true =>
      obtain ⟨t0, ht0, hp0⟩ := isB_true hzH.out
      have hn1 : n + 1 ≤ l.length := lt_of_at ht0
      have hR' : R = .ok (l.drop (n + 1)) st := by rw [hR.out, drop_at_ ht0]; exact items_close _ _ _ _ hp0
      have hRH := Lib.hid hR'
      have hye := Lib.hid ((Sk.start hn ()).yes (p := isText ⟨#[125]⟩) ht0 hp0).1
      clear hR' hR ht0 hp0 hzH
      go_wp2_with fail
      refine (rsign_any W10 g g n false ⟨#[125]⟩ _ _ _ _ _ _ _ _ _ l (Rd.ok (l.drop n) ()) HP10.out T10.out (Sk.start hn ()) hl2).mono ?_
      rintro e W11 ⟨rfl, n11, b11, hk11, hb11, hG11⟩
      obtain ⟨e1, e2⟩ := Sk.eq hye.out hk11
      subst e2
      have hRm : R = .ok (l.drop n11) st := by rw [e1]; exact hRH.out
      have hRH2 := Lib.hid hRm
      have hnm : n ≤ n11 := by omega
      clear hRm hRH e1 hn1
      have hB11 : Below g W10 W11 := grown_below hG11 (Nat.le_refl _) HP10.out.lt
      have HR11 := Lib.hid (HR10.out.set HP10.out (by kernel_rfl) hG11)
      have RA11 := Lib.hid (RA10.out.below hB11 hrag.out)
      have L11 := Lib.hid (L10.out.trans (hB11.mono hwg.out))
      have T11 := Lib.hid (T10.out.below hB11)
      have HP11 := Lib.hid hb11
      clear hB11 hG11 hk11 hb11 HP10 RA10 L10 T10 HR10 hye
      by_cases hlt : n11 < l.length
      case pos =>
        have hpb : policy l = .bad (l.drop (n11)) := by
          rw [hPol.out]
          rw [hRH2.out]
          show polEnd _ _ _ = _
          unfold polEnd
          rw [if_neg (by rw [List.isEmpty_iff, List.drop_eq_nil_iff]; omega)]
        have y0 := HP11.out.cell 0
        have y1 := HP11.out.cell 1
        have y2 := HP11.out.cell 2
        obtain ⟨T, hTn⟩ : ∃ T, l[n11]? = some T := ⟨_, List.getElem?_eq_getElem hlt⟩
        have hPa : Hid (parse s = ⟨noPol, T.pos, 3⟩) := by unfold Hid; rw [parse_bad htkH.out hpb, hTn]
        obtain ⟨tb, tf, rfl, htb, k0, k1, k2, k3⟩ := T11.out.at_ (n11) T hTn
        have d2 : decide (((n11 : Nat) : Int) < (l.length : Int)) = true := decide_eq_true (by omega)
        have d3 : decide (n11 < l.length) = true := decide_eq_true hlt
        have q0 : (0 : Int) ≤ ((n11 : Nat) : Int) := by omega
        have q1 : ((n11 : Nat) : Int) < (l.length : Int) := by omega
        clear hpb hTn hlt htb k0 k1 k2
        go_wp2_with fail
        go_quiet (fail)
        go_wp2_with fail
        go_quiet (fail)
        go_wp2_with fail
        go_quiet (fail)
        go_upto_region 22 with fail
        refine world_is (P := fun W => Code.wp _ _ _ _ W) (fun W20 hW9 => ?_)
        have hB9 : Below W11.heap.size W11 W20 := by rw [← hW9]; exact ⟨rfl, rfl, rfl, Nat.le_refl _, fun _ _ => rfl⟩
        have RA20 := Lib.hid (RA11.out.below hB9 RA11.out.lt)
        have L20 := Lib.hid (L11.out.trans (hB9.mono L11.out.size))
        clear hW9 hB9 y0 y1 y2
        have r0 : W20.cell? ⟨ra, 0, none⟩ = some (.string ⟨#[]⟩) := RA20.out.cell 0
        have r1 : W20.cell? ⟨ra, 1, none⟩ = some (.slice none 0 0) := RA20.out.cell 1
        have r2 : W20.cell? ⟨ra, 2, none⟩ = some (.slice none 0 0) := RA20.out.cell 2
        have r3 : W20.cell? ⟨ra, 3, none⟩ = some (.slice none 0 0) := RA20.out.cell 3
        have r4 : W20.cell? ⟨ra, 4, none⟩ = some (.int .i64 0) := RA20.out.cell 4
        have r5 : W20.cell? ⟨ra, 5, none⟩ = some (.int .i64 0) := RA20.out.cell 5
        have f0 := RA20.out.frozen 0
        have f1 := RA20.out.frozen 1
        have f2 := RA20.out.frozen 2
        have f3 := RA20.out.frozen 3
        have f4 := RA20.out.frozen 4
        have f5 := RA20.out.frozen 5
        go_wp2_with fail
        rw [hPa.out]
        exact bodyPost_ret (results_c (P := Tryd.prog) rfl _ _ ra 32 #[.string ⟨#[]⟩, .slice none 0 0, .slice none 0 0, .slice none 0 0, .int .i64 (T.pos : Int), .int .i64 3] _ rfl ((((((RA20.out.set_ 0 _).set_ 1 _).set_ 2 _).set_ 3 _).set_ 4 _).set_ 5 _) Tryd.underlying32 rfl (by kernel_rfl)) rfl (rpost_no (below6 L20.out hra.out _ _ _ _ _ _))
      case neg =>
        have hpol : policy l = .ok [] (t2, st) := by
          rw [hPol.out, hRH2.out]
          show polEnd _ _ _ = _
          unfold polEnd
          rw [List.drop_eq_nil_of_le (by omega)]
          rfl
        have hpolH := Lib.hid hpol
        have hAm := policy_among hpol
        have hwp : Hid (∀ t ∈ wrongs st, t.pos ≤ 4000) := fun t ht => (HTX.out t (wrongs_mem hAm t ht)).2
        have hnt : Hid (∀ t ∈ st.typs, t.name.pos ≤ 4000) := fun t ht => (HTX.out _ (hAm.typs t ht)).2
        have hnr : Hid (∀ r ∈ st.ruls, r.a.pos ≤ 4000 ∧ r.b.pos ≤ 4000) := fun r hr => ⟨(HTX.out _ (hAm.ruls r hr).1).2, (HTX.out _ (hAm.ruls r hr).2).2⟩
        have hlt4 : st.typs.length ≤ 4000 := Nat.le_trans hAm.nt hl4
        have hlr4 : st.ruls.length ≤ 4000 := Nat.le_trans hAm.nr hl4
        clear hpol hAm
        obtain ⟨At, Ct, hv9⟩ := HR11.out.slice (i := 0) rfl
        dsimp only at hv9
        subst hv9
        obtain ⟨Aa, Ca, hv9⟩ := HR11.out.slice (i := 3) rfl
        dsimp only at hv9
        subst hv9
        obtain ⟨Af, Cf, hv9⟩ := HR11.out.slice (i := 4) rfl
        dsimp only at hv9
        subst hv9
        obtain ⟨As, Cs, hv9⟩ := HR11.out.slice (i := 5) rfl
        dsimp only at hv9
        subst hv9
        obtain ⟨Ak, Ck, hv9⟩ := HR11.out.slice (i := 6) rfl
        dsimp only at hv9
        subst hv9
        have y0 := HP11.out.cell 0
        have y1 := HP11.out.cell 1
        have y2 := HP11.out.cell 2
        have d2 : decide ((n11 : Int) < (l.length : Int)) = false := decide_eq_false (by omega)
        have d3 : decide (n11 < l.length) = false := decide_eq_false hlt
        clear hlt
        go_wp2_with fail
        go_quiet (fail)
        go_upto_region 23 with fail
        refine world_is (P := fun W => Code.wp _ _ _ _ W) (fun W12 hW9 => ?_)
        have hB9 : Below W11.heap.size W11 W12 := by rw [← hW9]; exact ⟨rfl, rfl, rfl, Nat.le_refl _, fun _ _ => rfl⟩
        have hBg : Below g W11 W12 := hB9.mono (Nat.le_of_lt HP11.out.lt)
        have HP12 := Lib.hid (HP11.out.below hB9 HP11.out.lt)
        have HR12 := Lib.hid (HR11.out.below hB9)
        have RA12 := Lib.hid (RA11.out.below hBg hrag.out)
        have L12 := Lib.hid (L11.out.trans (hBg.mono hwg.out))
        have hgW : Hid (g ≤ W12.heap.size) := Nat.le_of_lt HP12.out.lt
        clear hW9 hB9 hBg y0 y1 y2 d2 d3 HP11 HR11 RA11 L11 T11
        go_wp2_with fail
        go_loopw [7, 8] (fun v7 v8 wr => ∃ (i : Nat) (z : Int), v8 = .int .i64 (i : Int) ∧ v7 = .int .i64 z ∧ i ≤ st.typs.length ∧ -1 ≤ z ∧ z ≤ 4000 ∧ Hid (lz (twice [] (st.typs.take i)) = z) ∧ Hid (Below W12.heap.size W12 wr)) (fun _ v8 _ => st.typs.length - (intOf v8).toNat)
        case atStart => exact ⟨0, -1, rfl, rfl, Nat.zero_le _, by omega, by omega, rfl, Below.refl _ _⟩
        case round =>
        obtain ⟨i, z, rfl, rfl, hi, hz1, hz4, hz, hBi⟩ := hrel
        obtain ⟨w13, hw9⟩ : ∃ x, x = wr := ⟨_, rfl⟩
        subst hw9
        have HP13 := Lib.hid (HP12.out.below hBi.out HP12.out.lt)
        have HR13 := Lib.hid (HR12.out.below hBi.out)
        have g4 := HP13.out.cell 4
        have g7 := HP13.out.cell 7
        by_cases hlt : i < st.typs.length
        case pos =>
          obtain ⟨t, ht⟩ : ∃ t, st.typs[i]? = some t := ⟨_, List.getElem?_eq_getElem hlt⟩
          have hRT := typs_at (HR13.out.own 0 _ rfl)
          obtain ⟨tb, tf, rfl, k0⟩ := typ_at (HR13.out.own 0 _ rfl) ht
          obtain ⟨ab, af, rfl, a0⟩ := pos_at (HR13.out.own 3 _ rfl) (j := i) (t := t.name) (by rw [List.getElem?_map, ht]; rfl)
          have hRT1 := Lib.hid hRT
          have hpos4 := hnt.out t (List.mem_iff_getElem?.2 ⟨i, ht⟩)
          obtain ⟨hF1, hF2⟩ := typ_there ht
          have hstep := typ_round ht
          obtain ⟨F, hF⟩ : ∃ F, findW (namesL st.typs) t.name.text = F := ⟨_, rfl⟩
          rw [hF] at hF1 hF2 hstep
          have hIx : ∀ q, Hid (Calls Tryd.prog 35 #[.slice (some ⟨tb, tf, none⟩) st.typs.length Ct, .string t.name.text] (w13.drewN q) fun e w' => e = .returned (.int .i64 (F : Int)) ∧ w13.drewN q = w') := fun q => by
            have h := rindex_any (w13.drewN q) _ _ (st.typs.map PTyp.typ) t.name.text (by rw [List.length_map]; omega) (hRT1.out.below ⟨rfl, rfl, rfl, Nat.le_refl _, fun _ _ => rfl⟩)
            rw [namesL_typ, hF2] at h
            exact h.mono fun e w' h => ⟨h.1, h.2.symm⟩
          obtain ⟨p, hp⟩ : ∃ p, t.name.pos = p := ⟨_, rfl⟩
          rw [hp] at a0 hpos4
          have hlzs : Hid (lz (twice [] (st.typs.take (i + 1))) = if F < i then wmin z p else z) := by
            unfold Hid
            rw [hstep]
            by_cases h : F < i
            · rw [if_pos h, if_pos h, lz_snoc, hz.out, hp]
            · rw [if_neg h, if_neg h, List.append_nil, hz.out]
          have d2 : decide ((i : Int) < (st.typs.length : Int)) = true := decide_eq_true (by omega)
          have d3 : decide (i < st.typs.length) = true := decide_eq_true hlt
          have q0 : (0 : Int) ≤ (i : Int) := by omega
          have q1 : (i : Int) < (st.typs.length : Int) := by omega
          have q2 : (i : Int) ≤ 4000 := by omega
          have d5 : decide (i < (st.typs.map PTyp.name).length) = true := by rw [List.length_map]; exact d3
          have q3 : (i : Int) < ((st.typs.map PTyp.name).length : Int) := by rw [List.length_map]; exact q1
          have hltH := Lib.hid hlt
          clear ht hRT hstep hF hF2 hp hlt hi
          by_cases hFi : F < i
          case neg =>
            have e1 : decide (F < i) = false := decide_eq_false hFi
            have e2 : decide ((F : Int) < (i : Int)) = false := decide_eq_false (by omega)
            rw [if_neg hFi] at hlzs
            clear hFi hF1
            go_wp2_with fail
            go_quiet ((go_at_call 35; exact Calls.quiet_of_same (((hIx _).out).mono fun e w' h => ⟨h.1, h.2.symm⟩)))
            go_wp2_with fail
            go_roundw
            case rel => exact ⟨i + 1, z, by go_num, rfl, hltH.out, by omega, by omega, hlzs, Lib.hid (hBi.out.trans ⟨rfl, rfl, rfl, Nat.le_refl _, fun _ _ => rfl⟩)⟩
            case measure => have := hltH.out; simp [intOf]; omega
          case pos =>
            have e1 : decide (F < i) = true := decide_eq_true hFi
            have e2 : decide ((F : Int) < (i : Int)) = true := decide_eq_true (by omega)
            rw [if_pos hFi] at hlzs
            clear hFi hF1
            unfold wmin at hlzs
            by_cases hz0 : z < 0
            case pos =>
              have e3 : decide (z < 0) = true := decide_eq_true hz0
              rw [if_pos (.inl hz0)] at hlzs
              go_wp2_with fail
              go_quiet ((go_at_call 35; exact Calls.quiet_of_same (((hIx _).out).mono fun e w' h => ⟨h.1, h.2.symm⟩)))
              go_wp2_with fail
              go_roundw
              case rel => exact ⟨i + 1, (p : Int), by go_num, rfl, hltH.out, by omega, by omega, hlzs, Lib.hid (hBi.out.trans ⟨rfl, rfl, rfl, Nat.le_refl _, fun _ _ => rfl⟩)⟩
              case measure => have := hltH.out; simp [intOf]; omega
            case neg =>
              have e3 : decide (z < 0) = false := decide_eq_false hz0
              by_cases hpz : (p : Int) < z
              case pos =>
                have e4 : decide ((p : Int) < z) = true := decide_eq_true hpz
                rw [if_pos (.inr hpz)] at hlzs
                go_wp2_with fail
                go_quiet ((go_at_call 35; exact Calls.quiet_of_same (((hIx _).out).mono fun e w' h => ⟨h.1, h.2.symm⟩)))
                go_wp2_with fail
                go_roundw
                case rel => exact ⟨i + 1, (p : Int), by go_num, rfl, hltH.out, by omega, by omega, hlzs, Lib.hid (hBi.out.trans ⟨rfl, rfl, rfl, Nat.le_refl _, fun _ _ => rfl⟩)⟩
                case measure => have := hltH.out; simp [intOf]; omega
              case neg =>
                have e4 : decide ((p : Int) < z) = false := decide_eq_false hpz
                rw [if_neg (fun h => h.elim hz0 hpz)] at hlzs
                go_wp2_with fail
                go_quiet ((go_at_call 35; exact Calls.quiet_of_same (((hIx _).out).mono fun e w' h => ⟨h.1, h.2.symm⟩)))
                go_wp2_with fail
                go_roundw
                case rel => exact ⟨i + 1, z, by go_num, rfl, hltH.out, by omega, by omega, hlzs, Lib.hid (hBi.out.trans ⟨rfl, rfl, rfl, Nat.le_refl _, fun _ _ => rfl⟩)⟩
                case measure => have := hltH.out; simp [intOf]; omega
        case neg =>
          have d2 : decide ((i : Int) < (st.typs.length : Int)) = false := decide_eq_false (by omega)
          have d3 : decide (i < st.typs.length) = false := decide_eq_false hlt
          have hzT : Hid (lz (twice [] st.typs) = z) := by
            have h := hz.out
            rw [List.take_of_length_le (by omega)] at h
            exact h
          have hB13 := hBi.out.mono hgW.out
          have RA13 := Lib.hid (RA12.out.below hB13 hrag.out)
          have L13 := Lib.hid (L12.out.trans (hB13.mono hwg.out))
          have hgW13 : Hid (g ≤ w13.heap.size) := Nat.le_of_lt HP13.out.lt
          clear hlt hz hi hBi hB13 HP12 HR12 RA12 L12 hgW
          go_wp2_with fail
          go_loopw [7, 9] (fun v7 v9 wr => ∃ (j : Nat) (z : Int) (vr : Value), v9 = .int .i64 (j : Int) ∧ v7 = .int .i64 z ∧ j ≤ st.ruls.length ∧ -1 ≤ z ∧ z ≤ 4000 ∧ Hid (lz (twice [] st.typs ++ (st.ruls.take j).flatMap (missing st.typs)) = z) ∧ Hid (Blk wr g 71 #[.slice A l.length c, .int .i64 (n11 : Int), .bool false, .string t2.text, .slice At st.typs.length Ct, vr, vq, .slice Aa (st.typs.map PTyp.name).length Ca, .slice Af (st.ruls.map PRul.a).length Cf, .slice As (st.ruls.map PRul.b).length Cs, .slice Ak (st.ruls.map PRul.kind).length Ck]) ∧ Hid (RowsA wr g (rdRows (.slice At st.typs.length Ct) vr vq (.slice Aa (st.typs.map PTyp.name).length Ca) (.slice Af (st.ruls.map PRul.a).length Cf) (.slice As (st.ruls.map PRul.b).length Cs) (.slice Ak (st.ruls.map PRul.kind).length Ck) st.typs ((st.ruls.take j).map (rulZ st.typs)) st.quos (st.typs.map PTyp.name) (st.ruls.map PRul.a) (st.ruls.map PRul.b) (st.ruls.map PRul.kind))) ∧ Hid (Below g w13 wr)) (fun _ v9 _ => st.ruls.length - (intOf v9).toNat)
          case atStart => exact ⟨0, z, vr, rfl, rfl, Nat.zero_le _, hz1, hz4, by unfold Hid; rw [List.take_zero, List.flatMap_nil, List.append_nil]; exact hzT.out, HP13.out, HR13.out, Below.refl _ _⟩
          case round =>
          clear HP13 HR13 g4 g7 hz1 hz4 hzT
          obtain ⟨j, z, vr, rfl, rfl, hj, hz1, hz4, hz, HP14, HR14, hBj⟩ := hrel
          obtain ⟨w14, hw9⟩ : ∃ x, x = wr := ⟨_, rfl⟩
          subst hw9
          have g4 := HP14.out.cell 4
          have g8 := HP14.out.cell 8
          have g9 := HP14.out.cell 9
          have g10 := HP14.out.cell 10
          by_cases hlt : j < st.ruls.length
          case pos =>
            obtain ⟨r, hr⟩ : ∃ r, st.ruls[j]? = some r := ⟨_, List.getElem?_eq_getElem hlt⟩
            have hRT := typs_at (HR14.out.own 0 _ rfl)
            have hRT1 := Lib.hid hRT
            obtain ⟨fb, ff, rfl, hfb, f0, f1⟩ := men_at (HR14.out.own 4 _ rfl) (j := j) (t := r.a) (by rw [List.getElem?_map, hr]; rfl)
            obtain ⟨sb, sf, rfl, hsb, s0, s1⟩ := men_at (HR14.out.own 5 _ rfl) (j := j) (t := r.b) (by rw [List.getElem?_map, hr]; rfl)
            obtain ⟨kb, kf, rfl, hkb, k0⟩ := kin_at (HR14.out.own 6 _ rfl) (j := j) (k := r.kind) (by rw [List.getElem?_map, hr]; rfl)
            obtain ⟨hpa, hpb⟩ := hnr.out r (List.mem_iff_getElem?.2 ⟨j, hr⟩)
            have hrH := Lib.hid hr
            obtain ⟨a, ha⟩ : ∃ a, findI (namesL st.typs) r.a.text = a := ⟨_, rfl⟩
            obtain ⟨b, hb⟩ : ∃ a, findI (namesL st.typs) r.b.text = a := ⟨_, rfl⟩
            obtain ⟨pa, epa⟩ : ∃ p, r.a.pos = p := ⟨_, rfl⟩
            obtain ⟨pb, epb⟩ : ∃ p, r.b.pos = p := ⟨_, rfl⟩
            obtain ⟨xa, exa⟩ : ∃ p, r.a.text = p := ⟨_, rfl⟩
            obtain ⟨xb, exb⟩ : ∃ p, r.b.text = p := ⟨_, rfl⟩
            have hlzs : Hid (lz ((twice [] st.typs ++ (st.ruls.take j).flatMap (missing st.typs)) ++ missing st.typs r) = stepW a pa (stepW b pb z)) := by
              unfold Hid
              rw [rul_round, hz.out, ha, hb, epa, epb]
            have hrz : Hid (rulZ st.typs r = ⟨r.kind, a, b⟩) := by unfold Hid rulZ; rw [ha, hb]
            have hIa : ∀ W q, Below w14.heap.size w14 W → Hid (Calls Tryd.prog 35 #[.slice At st.typs.length Ct, .string xa] (W.drewN q) fun e w' => e = .returned (.int .i64 a) ∧ W.drewN q = w') := fun W q hW => by
              have h := rindex_any (W.drewN q) _ _ (st.typs.map PTyp.typ) r.a.text (by rw [List.length_map]; omega) ((hRT1.out.below hW).below ⟨rfl, rfl, rfl, Nat.le_refl _, fun _ _ => rfl⟩)
              rw [namesL_typ, ha, exa] at h
              exact h.mono fun e w' h => ⟨h.1, h.2.symm⟩
            have hIb : ∀ W q, Below w14.heap.size w14 W → Hid (Calls Tryd.prog 35 #[.slice At st.typs.length Ct, .string xb] (W.drewN q) fun e w' => e = .returned (.int .i64 b) ∧ W.drewN q = w') := fun W q hW => by
              have h := rindex_any (W.drewN q) _ _ (st.typs.map PTyp.typ) r.b.text (by rw [List.length_map]; omega) ((hRT1.out.below hW).below ⟨rfl, rfl, rfl, Nat.le_refl _, fun _ _ => rfl⟩)
              rw [namesL_typ, hb, exb] at h
              exact h.mono fun e w' h => ⟨h.1, h.2.symm⟩
            have hIaH := Lib.hid hIa
            have hIbH := Lib.hid hIb
            rw [epa] at f1 hpa
            rw [epb] at s1 hpb
            rw [exa] at f0
            rw [exb] at s0
            have d2 : decide ((j : Int) < ((st.ruls.map PRul.kind).length : Int)) = true := decide_eq_true (by rw [List.length_map]; omega)
            have d3 : decide (j < (st.ruls.map PRul.kind).length) = true := decide_eq_true (by rw [List.length_map]; omega)
            have q0 : (0 : Int) ≤ (j : Int) := by omega
            have q1 : (j : Int) < ((st.ruls.map PRul.kind).length : Int) := by rw [List.length_map]; omega
            have q2 : (j : Int) < ((st.ruls.map PRul.a).length : Int) := by rw [List.length_map]; omega
            have q3 : (j : Int) < ((st.ruls.map PRul.b).length : Int) := by rw [List.length_map]; omega
            have q4 : (j : Int) ≤ 4000 := by omega
            have d4 : decide ((j : Int) < (st.ruls.length : Int)) = true := decide_eq_true (by omega)
            have d5 : decide (j < st.ruls.length) = true := decide_eq_true hlt
            have q5 : (j : Int) < (st.ruls.length : Int) := by omega
            have hltH := Lib.hid hlt
            have hzB : Hid (-1 ≤ stepW b pb z ∧ stepW b pb z ≤ 4000) := stepW_in hz1 hz4 hpb
            have hzA : Hid (-1 ≤ stepW a pa (stepW b pb z) ∧ stepW a pa (stepW b pb z) ≤ 4000) := stepW_in hzB.out.1 hzB.out.2 hpa
            have f0H := Lib.hid f0
            have f1H := Lib.hid f1
            have s0H := Lib.hid s0
            have s1H := Lib.hid s1
            have k0H := Lib.hid k0
            clear hr hRT hRT1 ha hb epa epb exa exb hIa hIb hlt hj hpa hpb f1 s0 s1 k0
            have hIx : ∀ q, Hid (Calls Tryd.prog 35 #[.slice At st.typs.length Ct, .string xa] (w14.drewN q) fun e w' => e = .returned (.int .i64 a) ∧ w14.drewN q = w') := fun q => hIaH.out w14 q (Below.refl _ _)
            go_wp2_with fail
            go_quiet ((go_at_call 35; exact Calls.quiet_of_same (((hIx _).out).mono fun e w' h => ⟨h.1, h.2.symm⟩)))
            clear hIx hIaH f0 g4 g8 g9 g10
            go_upto_region 33 with fail
            refine world_is (P := fun W => Code.wp _ _ _ _ W) (fun w15 hW9 => ?_)
            have hB9 : Below w14.heap.size w14 w15 := by rw [← hW9]; exact ⟨rfl, rfl, rfl, Nat.le_refl _, fun _ _ => rfl⟩
            have HP15 := Lib.hid (HP14.out.below hB9 HP14.out.lt)
            have s0 := (hB9.cell (p := ⟨sb, _, none⟩) hsb).trans s0H.out
            have g4 := HP15.out.cell 4
            have g9 := HP15.out.cell 9
            have hB15 := Lib.hid hB9
            have hIx : ∀ q, Hid (Calls Tryd.prog 35 #[.slice At st.typs.length Ct, .string xb] (w15.drewN q) fun e w' => e = .returned (.int .i64 b) ∧ w15.drewN q = w') := fun q => hIbH.out w15 q hB15.out
            clear hW9 hB9
            go_quiet ((go_at_call 35; exact Calls.quiet_of_same (((hIx _).out).mono fun e w' h => ⟨h.1, h.2.symm⟩)))
            clear hIx hIbH s0 g4 g9 s0H f0H
            go_upto_region 34 with fail
            refine world_is (P := fun W => Code.wp _ _ _ _ W) (fun w16 hW9 => ?_)
            have hB9 : Below w14.heap.size w14 w16 := by rw [← hW9]; exact hB15.out.trans ⟨rfl, rfl, rfl, Nat.le_refl _, fun _ _ => rfl⟩
            have HP16 := Lib.hid (HP14.out.below hB9 HP14.out.lt)
            have HR16 := Lib.hid (HR14.out.below hB9)
            have s1 := (hB9.cell (p := ⟨sb, _, none⟩) hsb).trans s1H.out
            have f1 := (hB9.cell (p := ⟨fb, _, none⟩) hfb).trans f1H.out
            have k0 := (hB9.cell (p := ⟨kb, _, none⟩) hkb).trans k0H.out
            have hBj16 := Lib.hid (hBj.out.trans (hB9.mono (Nat.le_of_lt HP14.out.lt)))
            have g8 := HP16.out.cell 8
            have g9 := HP16.out.cell 9
            have s1H := Lib.hid s1
            have f1H := Lib.hid f1
            have k0H := Lib.hid k0
            have g8H := Lib.hid g8
            clear hW9 hB9 hB15 HP15 HP14 HR14 hBj f1 k0 g8 hsb hfb hkb
            obtain ⟨cb, hcb⟩ : ∃ cb, (decide (b < 0) && (decide (z < 0) || decide ((pb : Int) < z))) = cb := ⟨_, rfl⟩
            have hcbH := Lib.hid hcb
            clear hcb
            go_cut [227] from 210 to 282 (fun v wx => v = .bool cb ∧ wx = w16)
            case first =>
              by_cases hx : b < 0
              · have e1 : decide (b < 0) = true := decide_eq_true hx
                by_cases hz0 : z < 0
                · have e2 : decide (z < 0) = true := decide_eq_true hz0
                  go_wp2_with fail
                  go_meet
                  exact ⟨by rw [← hcbH.out, e1, e2]; rfl, rfl⟩
                · have e2 : decide (z < 0) = false := decide_eq_false hz0
                  go_wp2_with fail
                  go_meet
                  exact ⟨by rw [← hcbH.out, e1, e2]; rfl, rfl⟩
              · have e1 : decide (b < 0) = false := decide_eq_false hx
                go_wp2_with fail
                go_meet
                exact ⟨by rw [← hcbH.out, e1]; rfl, rfl⟩
            case rest =>
            obtain ⟨rfl, hwx⟩ := hcut
            rw [hwx]
            clear hwx
            go_upto_if 227 with fail
            obtain ⟨zb, ezb⟩ : ∃ zz, stepW b pb z = zz := ⟨_, rfl⟩
            rw [ezb] at hzB hzA hlzs
            have ezbH := Lib.hid ezb
            clear ezb
            go_cut [7] from 227 to 282 (fun v wx => v = .int .i64 zb ∧ wx = w16)
            case first =>
              cases cb
              case true =>
                have hsw : Hid (zb = (pb : Int)) := by unfold Hid; rw [← ezbH.out]; exact stepW_yes hcbH.out
                go_wp2_with fail
                go_meet
                exact ⟨by rw [hsw.out], rfl⟩
              case false =>
                have hsw : Hid (zb = z) := by unfold Hid; rw [← ezbH.out]; exact stepW_no hcbH.out
                go_wp2_with fail
                go_meet
                exact ⟨by rw [hsw.out], rfl⟩
            case rest =>
            obtain ⟨rfl, hwx⟩ := hcut
            rw [hwx]
            clear hwx hcbH cb
            clear ezbH
            have hzb1 := hzB.out.1
            have hzb4 := hzB.out.2
            have f1 := f1H.out
            have g8 := g8H.out
            clear s1 g9 hz1 hz4 hz hzB s1H
            go_upto_region 36 with fail
            obtain ⟨cb, hcb⟩ : ∃ cb, (decide (a < 0) && (decide (zb < 0) || decide ((pa : Int) < zb))) = cb := ⟨_, rfl⟩
            have hcbH := Lib.hid hcb
            clear hcb
            go_cut [253] from 236 to 282 (fun v wx => v = .bool cb ∧ wx = w16)
            case first =>
              by_cases hx : a < 0
              · have e1 : decide (a < 0) = true := decide_eq_true hx
                by_cases hz0 : zb < 0
                · have e2 : decide (zb < 0) = true := decide_eq_true hz0
                  go_wp2_with fail
                  go_meet
                  exact ⟨by rw [← hcbH.out, e1, e2]; rfl, rfl⟩
                · have e2 : decide (zb < 0) = false := decide_eq_false hz0
                  go_wp2_with fail
                  go_meet
                  exact ⟨by rw [← hcbH.out, e1, e2]; rfl, rfl⟩
              · have e1 : decide (a < 0) = false := decide_eq_false hx
                go_wp2_with fail
                go_meet
                exact ⟨by rw [← hcbH.out, e1]; rfl, rfl⟩
            case rest =>
            obtain ⟨rfl, hwx⟩ := hcut
            rw [hwx]
            clear hwx
            go_upto_if 253 with fail
            obtain ⟨za, eza⟩ : ∃ zz, stepW a pa zb = zz := ⟨_, rfl⟩
            rw [eza] at hzA hlzs
            have ezaH := Lib.hid eza
            clear eza
            go_cut [7] from 253 to 282 (fun v wx => v = .int .i64 za ∧ wx = w16)
            case first =>
              cases cb
              case true =>
                have hsw : Hid (za = (pa : Int)) := by unfold Hid; rw [← ezaH.out]; exact stepW_yes hcbH.out
                go_wp2_with fail
                go_meet
                exact ⟨by rw [hsw.out], rfl⟩
              case false =>
                have hsw : Hid (za = zb) := by unfold Hid; rw [← ezaH.out]; exact stepW_no hcbH.out
                go_wp2_with fail
                go_meet
                exact ⟨by rw [hsw.out], rfl⟩
            case rest =>
            obtain ⟨rfl, hwx⟩ := hcut
            rw [hwx]
            clear hwx hcbH cb
            clear ezaH
            have hza1 := hzA.out.1
            have hza4 := hzA.out.2
            have hlR : Hid (((st.ruls.take j).map (rulZ st.typs)).length + 1 ≤ 1000000) := by
              unfold Hid
              rw [List.length_map, List.length_take]
              omega
            have hgH : Hid (g ≤ g) := Nat.le_refl _
            have hrl : 0 < (st.ruls.map PRul.kind).length := by rw [List.length_map]; have := hltH.out; omega
            have hkj : (kinC (st.ruls.map PRul.kind))[j]? = some (.int .i64 (r.kind : Int)) := kin_get (by rw [List.getElem?_map, hrH.out]; rfl)
            have hkjH := Lib.hid hkj
            have hrlH := Lib.hid hrl
            have hgW16 : Hid (g ≤ w16.heap.size) := Nat.le_of_lt HP16.out.lt
            obtain ⟨Ar, Cr, hv9⟩ := HR16.out.slice (i := 1) rfl
            dsimp only at hv9
            subst hv9
            clear f1 g8 hzb1 hzb4 hzA g8H f1H k0H hkj hrl
            obtain ⟨RL, hRL⟩ : ∃ L, ((st.ruls.take j).map (rulZ st.typs)) = L := ⟨_, rfl⟩
            rw [hRL] at HR16 HP16 hlR
            have hRLH := Lib.hid hRL
            clear hRL
            go_upto_region 38 with fail
            refine Late.wp_region_late (S := fun w' => w'.cell? ⟨g, 5, none⟩ = some ((.slice Ar RL.length Cr)) ∧ w'.cell? ⟨g, 10, none⟩ = some ((.slice (some ⟨kb, kf, none⟩) (st.ruls.map PRul.kind).length Ck)) ∧ w'.cell? ⟨kb, kf + j, none⟩ = some (.int .i64 (r.kind : Int))) [21] (by kernel_rfl) (⟨HP16.out.cell 5, HP16.out.cell 10, own_cell (HR16.out.own 6 _ rfl) hrlH.out hkjH.out⟩) (fun hHeld => ?_)
            refine' Late.wpAnyK_take (i := 0) (v := ?v0zp) rfl (by kernel_rfl) (by kernel_rfl) (by kernel_rfl) (by kernel_rfl) (by kernel_rfl) (fun _ _ _ h => h) (Or.inl ⟨by rfl, ?hy0zp⟩) hHeld ?rest0zp
            case hy0zp => intro w hSw; (try dsimp only at hSw); go_simp; all_goals with_reducible rfl
            try simp only [Act.put, List.setIfInBounds_toArray, List.set_cons_zero, List.set_cons_succ, List.getElem_toArray, List.getElem_cons_zero]
            refine' Late.wpAnyK_take (i := 1) (v := ?v1zp) rfl (by kernel_rfl) (by kernel_rfl) (by kernel_rfl) (by kernel_rfl) (by kernel_rfl) (fun _ _ _ h => h) (Or.inl ⟨by rfl, ?hy1zp⟩) hHeld ?rest1zp
            case hy1zp => intro w hSw; (try dsimp only at hSw); go_simp; all_goals with_reducible rfl
            try simp only [Act.put, List.setIfInBounds_toArray, List.set_cons_zero, List.set_cons_succ, List.getElem_toArray, List.getElem_cons_zero, List.getElem_cons_succ]
            refine' Late.wpAnyK_take (i := 2) (v := ?v2zp) rfl (by kernel_rfl) (by kernel_rfl) (by kernel_rfl) (by kernel_rfl) (by kernel_rfl) (fun _ _ _ h => h) (Or.inl ⟨by rfl, ?hy2zp⟩) hHeld ?rest2zp
            case hy2zp => intro w hSw; (try dsimp only at hSw); go_simp; all_goals with_reducible rfl
            try simp only [Act.put, List.setIfInBounds_toArray, List.set_cons_zero, List.set_cons_succ, List.getElem_toArray, List.getElem_cons_zero, List.getElem_cons_succ]
            refine' Late.wpAnyK_take (i := 3) (v := ?v3zp) rfl (by kernel_rfl) (by kernel_rfl) (by kernel_rfl) (by kernel_rfl) (by kernel_rfl) (fun _ _ _ h => h) (Or.inl ⟨by rfl, ?hy3zp⟩) hHeld ?rest3zp
            case hy3zp => intro w hSw; (try dsimp only at hSw); go_simp; all_goals with_reducible rfl
            try simp only [Act.put, List.setIfInBounds_toArray, List.set_cons_zero, List.set_cons_succ, List.getElem_toArray, List.getElem_cons_zero, List.getElem_cons_succ]
            refine' Late.wpAnyK_take (i := 4) (v := ?v4zp) rfl (by kernel_rfl) (by kernel_rfl) (by kernel_rfl) (by kernel_rfl) (by kernel_rfl) (fun _ _ _ h => h) (Or.inl ⟨by rfl, ?hy4zp⟩) hHeld ?rest4zp
            case hy4zp => intro w hSw; (try dsimp only at hSw); go_simp; all_goals with_reducible rfl
            try simp only [Act.put, List.setIfInBounds_toArray, List.set_cons_zero, List.set_cons_succ, List.getElem_toArray, List.getElem_cons_zero, List.getElem_cons_succ]
            refine' Late.wpAnyK_take (i := 5) (v := ?v5zp) rfl (by kernel_rfl) (by kernel_rfl) (by kernel_rfl) (by kernel_rfl) (by kernel_rfl) (fun _ _ _ h => h) (Or.inl ⟨by rfl, ?hy5zp⟩) hHeld ?rest5zp
            case hy5zp => intro w hSw; (try dsimp only at hSw); go_simp; all_goals with_reducible rfl
            try simp only [Act.put, List.setIfInBounds_toArray, List.set_cons_zero, List.set_cons_succ, List.getElem_toArray, List.getElem_cons_zero, List.getElem_cons_succ]
            refine' Late.wpAnyK_take (i := 6) (v := ?v6zp) rfl (by kernel_rfl) (by kernel_rfl) (by kernel_rfl) (by kernel_rfl) (by kernel_rfl) (fun _ _ _ h => h) (Or.inl ⟨by rfl, ?hy6zp⟩) hHeld ?rest6zp
            case hy6zp => intro w hSw; (try dsimp only at hSw); go_simp; all_goals with_reducible rfl
            try simp only [Act.put, List.setIfInBounds_toArray, List.set_cons_zero, List.set_cons_succ, List.getElem_toArray, List.getElem_cons_zero, List.getElem_cons_succ]
            refine' Late.wpAnyK_take (i := 7) (v := ?v7zp) rfl (by kernel_rfl) (by kernel_rfl) (by kernel_rfl) (by kernel_rfl) (by kernel_rfl) (fun _ _ _ h => h) (Or.inl ⟨by rfl, ?hy7zp⟩) hHeld ?rest7zp
            case hy7zp => intro w hSw; (try dsimp only at hSw); go_simp; all_goals with_reducible rfl
            try simp only [Act.put, List.setIfInBounds_toArray, List.set_cons_zero, List.set_cons_succ, List.getElem_toArray, List.getElem_cons_zero, List.getElem_cons_succ]
            refine' Late.wpAnyK_take (i := 8) (v := ?v8zp) rfl (by kernel_rfl) (by kernel_rfl) (by kernel_rfl) (by kernel_rfl) (by kernel_rfl) (fun _ _ _ h => h) (Or.inl ⟨by rfl, ?hy8zp⟩) hHeld ?rest8zp
            case hy8zp => intro w hSw; (try dsimp only at hSw); go_simp; all_goals with_reducible rfl
            try simp only [Act.put, List.setIfInBounds_toArray, List.set_cons_zero, List.set_cons_succ, List.getElem_toArray, List.getElem_cons_zero, List.getElem_cons_succ]
            refine' Late.wpAnyK_take (i := 9) (v := ?v9zp) rfl (by kernel_rfl) (by kernel_rfl) (by kernel_rfl) (by kernel_rfl) (by kernel_rfl) (fun _ _ _ h => h) (Or.inl ⟨by rfl, ?hy9zp⟩) hHeld ?rest9zp
            case hy9zp => intro w hSw; (try dsimp only at hSw); go_simp; all_goals with_reducible rfl
            try simp only [Act.put, List.setIfInBounds_toArray, List.set_cons_zero, List.set_cons_succ, List.getElem_toArray, List.getElem_cons_zero, List.getElem_cons_succ]
            refine' Late.wpAnyK_take (i := 10) (v := ?v10zp) rfl (by kernel_rfl) (by kernel_rfl) (by kernel_rfl) (by kernel_rfl) (by kernel_rfl) (fun _ _ _ h => h) (Or.inl ⟨by rfl, ?hy10zp⟩) hHeld ?rest10zp
            case hy10zp => intro w hSw; (try dsimp only at hSw); go_simp; all_goals with_reducible rfl
            try simp only [Act.put, List.setIfInBounds_toArray, List.set_cons_zero, List.set_cons_succ, List.getElem_toArray, List.getElem_cons_zero, List.getElem_cons_succ]
            refine' Late.wpAnyK_take (i := 11) (v := ?v11zp) rfl (by kernel_rfl) (by kernel_rfl) (by kernel_rfl) (by kernel_rfl) (by kernel_rfl) (fun _ _ _ h => h) (Or.inl ⟨by rfl, ?hy11zp⟩) hHeld ?rest11zp
            case hy11zp => intro w hSw; (try dsimp only at hSw); go_simp; all_goals with_reducible rfl
            try simp only [Act.put, List.setIfInBounds_toArray, List.set_cons_zero, List.set_cons_succ, List.getElem_toArray, List.getElem_cons_zero, List.getElem_cons_succ]
            refine' Late.wpAnyK_take (i := 12) (v := ?v12zp) rfl (by kernel_rfl) (by kernel_rfl) (by kernel_rfl) (by kernel_rfl) (by kernel_rfl) (fun _ _ _ h => h) (Or.inl ⟨by rfl, ?hy12zp⟩) hHeld ?rest12zp
            case hy12zp => intro w hSw; (try dsimp only at hSw); go_simp; all_goals with_reducible rfl
            try simp only [Act.put, List.setIfInBounds_toArray, List.set_cons_zero, List.set_cons_succ, List.getElem_toArray, List.getElem_cons_zero, List.getElem_cons_succ]
            refine' Late.wpAnyK_take (i := 13) (v := ?v13zp) rfl (by kernel_rfl) (by kernel_rfl) (by kernel_rfl) (by kernel_rfl) (by kernel_rfl) (fun _ _ _ h => h) (Or.inl ⟨by rfl, ?hy13zp⟩) hHeld ?rest13zp
            case hy13zp => intro w hSw; (try dsimp only at hSw); go_simp; all_goals with_reducible rfl
            try simp only [Act.put, List.setIfInBounds_toArray, List.set_cons_zero, List.set_cons_succ, List.getElem_toArray, List.getElem_cons_zero, List.getElem_cons_succ]
            refine' Late.wpAnyK_take (i := 14) (v := ?v14zp) rfl (by kernel_rfl) (by kernel_rfl) (by kernel_rfl) (by kernel_rfl) (by kernel_rfl) (fun _ _ _ h => h) (Or.inl ⟨by rfl, ?hy14zp⟩) hHeld ?rest14zp
            case hy14zp => intro w hSw; (try dsimp only at hSw); go_simp; all_goals with_reducible rfl
            try simp only [Act.put, List.setIfInBounds_toArray, List.set_cons_zero, List.set_cons_succ, List.getElem_toArray, List.getElem_cons_zero, List.getElem_cons_succ]
            refine' Late.wpAnyK_take (i := 15) (v := ?v15zp) rfl (by kernel_rfl) (by kernel_rfl) (by kernel_rfl) (by kernel_rfl) (by kernel_rfl) (fun _ _ _ h => h) (Or.inl ⟨by rfl, ?hy15zp⟩) hHeld ?rest15zp
            case hy15zp => intro w hSw; (try dsimp only at hSw); go_simp; all_goals with_reducible rfl
            try simp only [Act.put, List.setIfInBounds_toArray, List.set_cons_zero, List.set_cons_succ, List.getElem_toArray, List.getElem_cons_zero, List.getElem_cons_succ]
            refine Late.wpAnyK_ready (rs := [16]) (by kernel_rfl) (by simp) ?_
            refine Late.AllReadyK.cons rfl (fun KQ hKQ => ?_) Late.AllReadyK.nil
            go_simp
            refine world_is (P := fun W => KQ _ W) (fun z1 hw9 => ?_)
            have hB9 : Below w16.heap.size w16 z1 := by rw [← hw9]; first | exact (Below.refl _ _).alloc (Nat.le_refl _) _ | exact ((Below.refl _ _).alloc (Nat.le_refl _) _).drew | exact (Below.refl _ _).drew.alloc (Nat.le_refl _) _
            have Fz1 : Hid (Blk z1 w16.heap.size 53 #[.int .i64 (r.kind : Int), .int .i64 a, .int .i64 b]) := by unfold Hid; rw [← hw9]; exact Blk.new _ _ _
            have Pz1 : Hid (Blk z1 g 71 #[.slice A l.length c, .int .i64 (n11 : Int), .bool false, .string t2.text, .slice At st.typs.length Ct, .slice Ar RL.length Cr, vq, .slice Aa (st.typs.map PTyp.name).length Ca, .slice (some ⟨fb, ff, none⟩) (st.ruls.map PRul.a).length Cf, .slice (some ⟨sb, sf, none⟩) (st.ruls.map PRul.b).length Cs, .slice (some ⟨kb, kf, none⟩) (st.ruls.map PRul.kind).length Ck]) := by unfold Hid; exact HP16.out.below hB9 HP16.out.lt
            have Rz1 : Hid (RowsA z1 g (rdRows (.slice At st.typs.length Ct) (.slice Ar RL.length Cr) vq (.slice Aa (st.typs.map PTyp.name).length Ca) (.slice (some ⟨fb, ff, none⟩) (st.ruls.map PRul.a).length Cf) (.slice (some ⟨sb, sf, none⟩) (st.ruls.map PRul.b).length Cs) (.slice (some ⟨kb, kf, none⟩) (st.ruls.map PRul.kind).length Ck) st.typs RL st.quos (st.typs.map PTyp.name) (st.ruls.map PRul.a) (st.ruls.map PRul.b) (st.ruls.map PRul.kind))) := by unfold Hid; exact HR16.out.below hB9
            have Lz1 : Hid (Below g w13 z1) := by unfold Hid; exact hBj16.out.trans (hB9.mono (Nat.le_trans hgW13.out hBj16.out.size))
            clear hw9 hB9
            refine hKQ.out _ _ (⟨Pz1.out.cell 5, Pz1.out.cell 10, own_cell (Rz1.out.own 6 _ rfl) hrlH.out hkjH.out⟩) (fun hHeld2 => ?_)
            clear hKQ KQ hHeld
            have hHeld := hHeld2
            clear hHeld2
            try simp only [Act.put, List.setIfInBounds_toArray, List.set_cons_zero, List.set_cons_succ, List.getElem_toArray, List.getElem_cons_zero, List.getElem_cons_succ]
            refine Late.wpAnyK_ready (rs := [17]) (by kernel_rfl) (by simp) ?_
            refine Late.AllReadyK.cons rfl (fun KQ hKQ => ?_) Late.AllReadyK.nil
            refine wp_gcat_own 24 53 (.agg #[.int .i64 0, .int .i64 0, .int .i64 0]) 3 24 Tryd.underlying24 (by kernel_rfl) rfl (by decide) (by decide) _ _ rfl g (.slice Ar RL.length Cr) (RL.length) (rulC RL) rfl (Rz1.out.own 1 _ rfl) (w16.heap.size) 1 1 [.int .i64 (r.kind : Int), .int .i64 a, .int .i64 b] rfl rfl Fz1.out (by intro u hu; simp only [List.mem_cons, List.not_mem_nil, or_false] at hu; rcases hu with rfl | rfl | rfl <;> rfl) hlR.out (Nat.le_trans hgW13.out Lz1.out.size) ?_
            intro vz2 z2 hrow9 hG9 hO9
            have Rz2 : Hid (RowsA z2 g (List.set (rdRows (.slice At st.typs.length Ct) (.slice Ar RL.length Cr) vq (.slice Aa (st.typs.map PTyp.name).length Ca) (.slice (some ⟨fb, ff, none⟩) (st.ruls.map PRul.a).length Cf) (.slice (some ⟨sb, sf, none⟩) (st.ruls.map PRul.b).length Cs) (.slice (some ⟨kb, kf, none⟩) (st.ruls.map PRul.kind).length Ck) st.typs RL st.quos (st.typs.map PTyp.name) (st.ruls.map PRul.a) (st.ruls.map PRul.b) (st.ruls.map PRul.kind)) 1 ⟨53, 3, vz2, RL.length + 1, rulC RL ++ [.int .i64 (r.kind : Int),.int .i64 a,.int .i64 b]⟩)) := by unfold Hid; exact Rz1.out.push (i := 1) rfl hrow9 hG9 hO9
            have Pz2 : Hid (Blk z2 g 71 #[.slice A l.length c, .int .i64 (n11 : Int), .bool false, .string t2.text, .slice At st.typs.length Ct, .slice Ar RL.length Cr, vq, .slice Aa (st.typs.map PTyp.name).length Ca, .slice (some ⟨fb, ff, none⟩) (st.ruls.map PRul.a).length Cf, .slice (some ⟨sb, sf, none⟩) (st.ruls.map PRul.b).length Cs, .slice (some ⟨kb, kf, none⟩) (st.ruls.map PRul.kind).length Ck]) := by unfold Hid; exact Pz1.out.grown hG9 (Ne.symm (Rz1.out.ne Pz1.out (by kernel_rfl) 1 _ rfl))
            have Lz2 : Hid (Below g w13 z2) := by unfold Hid; exact Lz1.out.grown hG9 (Nat.le_trans hgW13.out Lz1.out.size) (fun j e => ((Rz1.out.own 1 _ rfl).lt j e).1)
            obtain ⟨Az2, Cz2, hv9⟩ := Rz2.out.slice (i := 1) rfl
            dsimp only at hv9
            subst hv9
            clear hrow9 hG9 hO9
            refine hKQ.out _ _ (⟨Pz2.out.cell 5, Pz2.out.cell 10, own_cell (Rz2.out.own 6 _ rfl) hrlH.out hkjH.out⟩) (fun hHeld2 => ?_)
            clear hKQ KQ hHeld
            have hHeld := hHeld2
            clear hHeld2
            try simp only [Act.put, List.setIfInBounds_toArray, List.set_cons_zero, List.set_cons_succ, List.getElem_toArray, List.getElem_cons_zero, List.getElem_cons_succ]
            refine' Late.wpAnyK_take (i := 18) (v := ?v18zq) rfl (by kernel_rfl) (by kernel_rfl) (by kernel_rfl) (by kernel_rfl) (by kernel_rfl) (fun _ _ _ h => h) (Or.inl ⟨by rfl, ?hy18zq⟩) hHeld ?rest18zq
            case hy18zq => intro w hSw; (try dsimp only at hSw); go_simp; all_goals with_reducible rfl
            try simp only [Act.put, List.setIfInBounds_toArray, List.set_cons_zero, List.set_cons_succ, List.getElem_toArray, List.getElem_cons_zero, List.getElem_cons_succ]
            refine' Late.wpAnyK_take (i := 19) (v := ?v19zq) rfl (by kernel_rfl) (by kernel_rfl) (by kernel_rfl) (by kernel_rfl) (by kernel_rfl) (fun _ _ _ h => h) (Or.inl ⟨by rfl, ?hy19zq⟩) hHeld ?rest19zq
            case hy19zq => intro w hSw; (try dsimp only at hSw); go_simp; all_goals with_reducible rfl
            try simp only [Act.put, List.setIfInBounds_toArray, List.set_cons_zero, List.set_cons_succ, List.getElem_toArray, List.getElem_cons_zero, List.getElem_cons_succ]
            refine' Late.wpAnyK_take (i := 20) (v := ?v20zq) rfl (by kernel_rfl) (by kernel_rfl) (by kernel_rfl) (by kernel_rfl) (by kernel_rfl) (fun _ _ _ h => h) (Or.inl ⟨by rfl, ?hy20zq⟩) hHeld ?rest20zq
            case hy20zq => intro w hSw; (try dsimp only at hSw); go_simp; all_goals with_reducible rfl
            try simp only [Act.put, List.setIfInBounds_toArray, List.set_cons_zero, List.set_cons_succ, List.getElem_toArray, List.getElem_cons_zero, List.getElem_cons_succ]
            refine Late.wpAnyK_ready (rs := [21]) (by kernel_rfl) (by simp) ?_
            refine Late.AllReadyK.late rfl (by kernel_rfl) (fun KQ hKQ => ?_)
            have c9 : z2.cell? ⟨g, 5, none⟩ = some ((.slice Ar RL.length Cr)) := Pz2.out.cell 5
            have f9 := Pz2.out.frozen 5
            go_simp
            clear c9 f9
            refine world_is (P := fun W => KQ _ W) (fun z3 hw9 => ?_)
            have hG9 : z2.grownBy z3 (some g) := by rw [← hw9]; exact grown_ofSet _ _ _ _
            have Pz3 : Hid (Blk z3 g 71 #[.slice A l.length c, .int .i64 (n11 : Int), .bool false, .string t2.text, .slice At st.typs.length Ct, (.slice Az2 (RL.length + 1) Cz2), vq, .slice Aa (st.typs.map PTyp.name).length Ca, .slice (some ⟨fb, ff, none⟩) (st.ruls.map PRul.a).length Cf, .slice (some ⟨sb, sf, none⟩) (st.ruls.map PRul.b).length Cs, .slice (some ⟨kb, kf, none⟩) (st.ruls.map PRul.kind).length Ck]) := by unfold Hid; rw [← hw9]; exact Pz2.out.set_ 5 _
            have Rz3 : Hid (RowsA z3 g (rdRows (.slice At st.typs.length Ct) (.slice Az2 (RL.length + 1) Cz2) vq (.slice Aa (st.typs.map PTyp.name).length Ca) (.slice (some ⟨fb, ff, none⟩) (st.ruls.map PRul.a).length Cf) (.slice (some ⟨sb, sf, none⟩) (st.ruls.map PRul.b).length Cs) (.slice (some ⟨kb, kf, none⟩) (st.ruls.map PRul.kind).length Ck) st.typs (RL ++ [⟨r.kind, a, b⟩]) st.quos (st.typs.map PTyp.name) (st.ruls.map PRul.a) (st.ruls.map PRul.b) (st.ruls.map PRul.kind))) := by unfold Hid; exact (Rz2.out.set Pz2.out (by kernel_rfl) hG9).cast (by simp [rdRows, rulC_snoc])
            have Lz3 : Hid (Below g w13 z3) := by unfold Hid; exact Lz2.out.trans (grown_below hG9 hgH.out Pz2.out.lt)
            clear hw9 hG9
            refine hKQ.out _ _ ?_
            clear hKQ KQ
            try simp only [Act.put, List.setIfInBounds_toArray, List.set_cons_zero, List.set_cons_succ, List.getElem_toArray, List.getElem_cons_zero, List.getElem_cons_succ]
            refine Late.wpAnyK_done (by kernel_rfl) ?_ _
            clear HP16 HR16 RA13 L13
            go_wp2_with fail
            go_roundw
            case rel => exact ⟨j + 1, za, _, by go_num, rfl, hltH.out, hza1, hza4, by
                have h := hlzs.out
                unfold Hid
                rw [take_more hrH.out, List.flatMap_append, ← List.append_assoc, show [r].flatMap (missing st.typs) = missing st.typs r by simp]
                exact h, by unfold Hid; exact Pz3.out, Lib.hid (Rz3.out.cast (by rw [take_more hrH.out, List.map_append, hRLH.out, show [r].map (rulZ st.typs) = [⟨r.kind, a, b⟩] by rw [← hrz.out]; rfl])), Lz3⟩
            case measure => have := hltH.out; simp [intOf]; omega
          case neg =>
            have d2 : decide ((j : Int) < ((st.ruls.map PRul.kind).length : Int)) = false := decide_eq_false (by rw [List.length_map]; omega)
            have d3 : decide (j < (st.ruls.map PRul.kind).length) = false := decide_eq_false (by rw [List.length_map]; omega)
            have d4 : decide ((j : Int) < (st.ruls.length : Int)) = false := decide_eq_false (by omega)
            have d5 : decide (j < st.ruls.length) = false := decide_eq_false hlt
            have hjr : j = st.ruls.length := by omega
            have hzW : Hid (lz (wrongs st) = z) := by
              have h := hz.out
              rw [List.take_of_length_le (by omega)] at h
              exact h
            have HR15 : Hid (RowsA w14 g (rdRows (.slice At st.typs.length Ct) vr vq (.slice Aa (st.typs.map PTyp.name).length Ca) (.slice Af (st.ruls.map PRul.a).length Cf) (.slice As (st.ruls.map PRul.b).length Cs) (.slice Ak (st.ruls.map PRul.kind).length Ck) st.typs (st.ruls.map (rulZ st.typs)) st.quos (st.typs.map PTyp.name) (st.ruls.map PRul.a) (st.ruls.map PRul.b) (st.ruls.map PRul.kind))) := by
              have h := HR14.out
              rw [List.take_of_length_le (by omega)] at h
              exact h
            have RA15 := Lib.hid (RA13.out.below hBj.out hrag.out)
            have L15 := Lib.hid (L13.out.trans (hBj.out.mono hwg.out))
            clear hlt hz hj hjr HR14 hBj RA13 L13 g4 g8 g9
            have r0 : w14.cell? ⟨ra, 0, none⟩ = some (.string ⟨#[]⟩) := RA15.out.cell 0
            have r1 : w14.cell? ⟨ra, 1, none⟩ = some (.slice none 0 0) := RA15.out.cell 1
            have r2 : w14.cell? ⟨ra, 2, none⟩ = some (.slice none 0 0) := RA15.out.cell 2
            have r3 : w14.cell? ⟨ra, 3, none⟩ = some (.slice none 0 0) := RA15.out.cell 3
            have r4 : w14.cell? ⟨ra, 4, none⟩ = some (.int .i64 0) := RA15.out.cell 4
            have r5 : w14.cell? ⟨ra, 5, none⟩ = some (.int .i64 0) := RA15.out.cell 5
            have f0 := RA15.out.frozen 0
            have f1 := RA15.out.frozen 1
            have f2 := RA15.out.frozen 2
            have f3 := RA15.out.frozen 3
            have f4 := RA15.out.frozen 4
            have f5 := RA15.out.frozen 5
            by_cases hz0 : 0 ≤ z
            case pos =>
              have e1 : decide (0 ≤ z) = true := decide_eq_true hz0
              obtain ⟨p, hp⟩ : ∃ p : Nat, z = (p : Int) := ⟨z.toNat, by omega⟩
              subst hp
              have hPa : Hid (parse s = ⟨noPol, p, 4⟩) := by
                unfold Hid parse
                rw [htkH.out]
                dsimp only
                rw [hpolH.out]
                dsimp only
                have h := hzW.out
                unfold lz at h
                cases hl : least (wrongs st) with
                | none => rw [hl] at h; dsimp only at h; omega
                | some m => rw [hl] at h; dsimp only at h ⊢; rw [show m = p by omega]
              clear hz1 hz4
              go_wp2_with fail
              rw [hPa.out]
              exact bodyPost_ret (results_c (P := Tryd.prog) rfl _ _ ra 32 #[.string ⟨#[]⟩, .slice none 0 0, .slice none 0 0, .slice none 0 0, .int .i64 (p : Int), .int .i64 4] _ rfl ((((((RA15.out.set_ 0 _).set_ 1 _).set_ 2 _).set_ 3 _).set_ 4 _).set_ 5 _) Tryd.underlying32 rfl (by kernel_rfl)) rfl (rpost_no (below6 L15.out hra.out _ _ _ _ _ _))
            case neg =>
              have e1 : decide (0 ≤ z) = false := decide_eq_false hz0
              have hlw : Hid (least (wrongs st) = none) := by
                have h := hzW.out
                unfold lz at h
                unfold Hid
                cases hl : least (wrongs st) with
                | none => rfl
                | some m => rw [hl] at h; dsimp only at h; omega
              have hPa : Hid (parse s = ⟨⟨t2.text, st.typs.map PTyp.typ, st.ruls.map (PRul.rul st.typs), st.quos.map PQuo.quo⟩, 0, 0⟩) := by
                unfold Hid parse
                rw [htkH.out]
                dsimp only
                rw [hpolH.out]
                dsimp only
                rw [hlw.out]
              obtain ⟨Ar, Cr, hv9⟩ := HR15.out.slice (i := 1) rfl
              dsimp only at hv9
              subst hv9
              obtain ⟨Aq, Cq, hv9⟩ := HR15.out.slice (i := 2) rfl
              dsimp only at hv9
              subst hv9
              have HRr : Hid (w14.ownsRow g 53 3 (.slice Ar st.ruls.length Cr) st.ruls.length (rulC (st.ruls.map (PRul.rul st.typs)))) := by
                have h := HR15.out.own 1 _ rfl
                dsimp only at h
                rw [rulZ_rul hlw.out, List.length_map] at h
                exact h
              have g3 := HP14.out.cell 3
              have g4 := HP14.out.cell 4
              have g5 := HP14.out.cell 5
              have g6 := HP14.out.cell 6
              have hgra : g ≠ ra := Ne.symm (Nat.ne_of_lt hrag.out)
              clear hz1 hz4 hz0
              go_wp2_with fail
              rw [hPa.out]
              refine bodyPost_ret (results_c (P := Tryd.prog) rfl _ _ ra 32 #[.string t2.text, .slice At st.typs.length Ct, .slice Ar st.ruls.length Cr, .slice Aq st.quos.length Cq, .int .i64 0, .int .i64 0] _ rfl ((((((RA15.out.set_ 0 _).set_ 1 _).set_ 2 _).set_ 3 _).set_ 4 _).set_ 5 _) Tryd.underlying32 rfl (by kernel_rfl)) rfl ⟨_, _, _, rfl, ⟨_, _, _, rfl, ?_, ?_, ?_⟩, below6 L15.out hra.out _ _ _ _ _ _⟩
              · exact own_cast (own_more (own6 (HR15.out.own 0 _ rfl) hrag.out _ _ _ _ _ _) hwg.out) (by simp) (typsC_typC _).symm
              · exact own_cast (own_more (own6 HRr.out hrag.out _ _ _ _ _ _) hwg.out) (by simp) rfl
              · exact own_cast (own_more (own6 (HR15.out.own 2 _ rfl) hrag.out _ _ _ _ _ _) hwg.out) (by simp) (quosC_quoC _).symm
    case false =>
      have x0 := HP10.out.cell 0
      have x1 := HP10.out.cell 1
      by_cases hlt : n < l.length
      case neg =>
        have d2 : decide ((n : Int) < (l.length : Int)) = false := decide_eq_false (by omega)
        have d3 : decide (n < l.length) = false := decide_eq_false hlt
        have hNo : Hid (∀ t, l[n]? = some t → ¬ findW ruleWords t.text < 5) := fun t ht => by rw [List.getElem?_eq_none (Nat.le_of_not_lt hlt)] at ht; cases ht
        have hq0 : Hid (isB l n wQuorum = false) := isB_end (Nat.le_of_not_lt hlt)
        clear hlt
        go_wp2_with fail
        go_quiet (fail)
        go_upto_region 14 with fail
        refine world_is (P := fun W => Code.wp _ _ _ _ W) (fun W12 hW9 => ?_)
        have hB9 : Below W10.heap.size W10 W12 := by rw [← hW9]; exact ⟨rfl, rfl, rfl, Nat.le_refl _, fun _ _ => rfl⟩
        have hBg : Below g W10 W12 := hB9.mono (Nat.le_of_lt HP10.out.lt)
        have HP12 := Lib.hid (HP10.out.below hB9 HP10.out.lt)
        have HR12 := Lib.hid (HR10.out.below hB9)
        have T12 := Lib.hid (T10.out.below hBg)
        have L12b := Lib.hid (L7b.out.trans hBg)
        clear hW9 hB9 hBg x0 x1
        go_wp2_with fail
        refine (ris_any W12 g g n false ⟨#[113, 117, 111, 114, 117, 109]⟩ _ _ _ _ _ _ _ _ _ l HP12.out T12.out).mono ?_
        rintro e W13 ⟨rfl, hBs⟩
        have hB13 : Below g W12 W13 := hBs.mono (Nat.le_of_lt HP12.out.lt)
        have HR13 := Lib.hid (HR12.out.below hBs)
        have HP13 := Lib.hid (HP12.out.below hBs HP12.out.lt)
        have T13 := Lib.hid (T12.out.below hB13)
        have L13b := Lib.hid (L12b.out.trans hB13)
        clear hB13 hBs HR12 HP12 T12 L12b
        rw [show isB l n ⟨#[113, 117, 111, 114, 117, 109]⟩ = false from hq0.out]
        go_wp2_with fail
        refine (rkind_any ⟨_, _, _, _, _, _, _, HP13.out, HR13.out⟩ T13.out (Nat.le_refl _) hn (by omega) (by omega)).mono ?_
        rintro e W14 hp13
        have hst : st.typs.length ≤ n ∧ st.ruls.length ≤ n ∧ st.quos.length ≤ n := ⟨hst1, hst2, hst3⟩
        obtain ⟨hB15, rfl, n15, b15, hM15, hn15, hlt15⟩ := main_step hn (step_kind hzH.out hq0.out hNo.out hst) hR.out hp13
        have hM15 := Lib.hid hM15
        have hLn := Lib.hid (L13b.out.trans hB15)
        have hl15 := Lib.hid hlt15
        clear hp13 hB15 hlt15
        go_wp2_with fail
        go_roundw
        case rel => exact ⟨n15, b15, hM15, hLn⟩
        case measure =>
          rw [mainR_meas hM15.out, hM9.out]
          have i1 := hM15.out.1
          cases b15
          · have i2 := hl15.out rfl
            show 2 * (l.length - n15) + 1 < 2 * (l.length - n) + 1
            omega
          · show 2 * (l.length - n15) + 0 < 2 * (l.length - n) + 1
            omega
      case pos =>
        obtain ⟨T, hTn⟩ : ∃ T, l[n]? = some T := ⟨_, List.getElem?_eq_getElem hlt⟩
        obtain ⟨tb, tf, rfl, htb, k0, k1, k2, k3⟩ := T10.out.at_ n T hTn
        have d2 : decide ((n : Int) < (l.length : Int)) = true := decide_eq_true (by omega)
        have d3 : decide (n < l.length) = true := decide_eq_true hlt
        have q0 : (0 : Int) ≤ (n : Int) := by omega
        have q1 : (n : Int) < (l.length : Int) := by omega
        have hTnH := Lib.hid hTn
        have htbH := Lib.hid htb
        have hk1 := Lib.hid k1
        clear hTn htb k0 k2 k3 hlt k1
        go_wp2_with fail
        go_quiet (fail)
        go_upto_region 11 with fail
        refine world_is (P := fun W => Code.wp _ _ _ _ W) (fun W11 hW9 => ?_)
        have hB9 : Below W10.heap.size W10 W11 := by rw [← hW9]; exact ⟨rfl, rfl, rfl, Nat.le_refl _, fun _ _ => rfl⟩
        have hBg : Below g W10 W11 := hB9.mono (Nat.le_of_lt HP10.out.lt)
        have HP11 := Lib.hid (HP10.out.below hB9 HP10.out.lt)
        have HR11 := Lib.hid (HR10.out.below hB9)
        have T11 := Lib.hid (T10.out.below hBg)
        have L11b := Lib.hid (L7b.out.trans hBg)
        have k11 : Hid (W11.cell? ⟨tb, tf + n * 4 + 1, none⟩ = some (.string T.text)) := (hBg.cell (p := ⟨tb, _, none⟩) htbH.out).trans hk1.out
        clear hW9 hB9 hBg hk1
        clear x0 x1
        refine wp_region_held_drew (S := (fun w' => w'.cell? ⟨g, 0, none⟩ = some (.slice (some ⟨tb, tf, none⟩) l.length c) ∧ w'.cell? ⟨g, 1, none⟩ = some (.int .i64 (n : Int)) ∧ w'.cell? ⟨tb, tf + n * 4 + 1, none⟩ = some (.string T.text))) (by kernel_rfl) ⟨HP11.out.cell 0, HP11.out.cell 1, k11.out⟩ (fun hHeld => ?_)
        refine' wpAnyH_take (i := 1) (v := ?v1m) rfl (by kernel_rfl) (by kernel_rfl) (by kernel_rfl) (fun _ _ _ h => h) (Or.inl ⟨by rfl, ?hy1m⟩) hHeld ?rest1m
        case hy1m =>
          intro w hSw
          try dsimp only at hSw
          go_simp
          all_goals with_reducible rfl
        try simp only [Act.put, List.setIfInBounds_toArray, List.set_cons_zero, List.set_cons_succ, List.getElem_toArray, List.getElem_cons_zero, List.getElem_cons_succ]
        refine' wpAnyH_take (i := 2) (v := ?v2m) rfl (by kernel_rfl) (by kernel_rfl) (by kernel_rfl) (fun _ _ _ h => h) (Or.inl ⟨by rfl, ?hy2m⟩) hHeld ?rest2m
        case hy2m =>
          intro w hSw
          try dsimp only at hSw
          go_simp
          all_goals with_reducible rfl
        try simp only [Act.put, List.setIfInBounds_toArray, List.set_cons_zero, List.set_cons_succ, List.getElem_toArray, List.getElem_cons_zero, List.getElem_cons_succ]
        refine' wpAnyH_take (i := 3) (v := ?v3m) rfl (by kernel_rfl) (by kernel_rfl) (by kernel_rfl) (fun _ _ _ h => h) (Or.inl ⟨by rfl, ?hy3m⟩) hHeld ?rest3m
        case hy3m =>
          intro w hSw
          try dsimp only at hSw
          go_simp
          all_goals with_reducible rfl
        try simp only [Act.put, List.setIfInBounds_toArray, List.set_cons_zero, List.set_cons_succ, List.getElem_toArray, List.getElem_cons_zero, List.getElem_cons_succ]
        refine' wpAnyH_take (i := 4) (v := ?v4m) rfl (by kernel_rfl) (by kernel_rfl) (by kernel_rfl) (fun _ _ _ h => h) (Or.inl ⟨by rfl, ?hy4m⟩) hHeld ?rest4m
        case hy4m =>
          intro w hSw
          try dsimp only at hSw
          go_simp
          all_goals with_reducible rfl
        try simp only [Act.put, List.setIfInBounds_toArray, List.set_cons_zero, List.set_cons_succ, List.getElem_toArray, List.getElem_cons_zero, List.getElem_cons_succ]
        refine' wpAnyH_take (i := 5) (v := ?v5m) rfl (by kernel_rfl) (by kernel_rfl) (by kernel_rfl) (fun _ _ _ h => h) (Or.inl ⟨by rfl, ?hy5m⟩) hHeld ?rest5m
        case hy5m =>
          intro w hSw
          try dsimp only at hSw
          go_simp
          all_goals with_reducible rfl
        try simp only [Act.put, List.setIfInBounds_toArray, List.set_cons_zero, List.set_cons_succ, List.getElem_toArray, List.getElem_cons_zero, List.getElem_cons_succ]
        refine' wpAnyH_take (i := 6) (v := ?v6m) rfl (by kernel_rfl) (by kernel_rfl) (by kernel_rfl) (fun _ _ _ h => h) (Or.inl ⟨by rfl, ?hy6m⟩) hHeld ?rest6m
        case hy6m =>
          intro w hSw
          try dsimp only at hSw
          go_simp
          all_goals with_reducible rfl
        try simp only [Act.put, List.setIfInBounds_toArray, List.set_cons_zero, List.set_cons_succ, List.getElem_toArray, List.getElem_cons_zero, List.getElem_cons_succ]
        refine' wpAnyH_take (i := 7) (v := ?v7m) rfl (by kernel_rfl) (by kernel_rfl) (by kernel_rfl) (fun _ _ _ h => h) (Or.inl ⟨by rfl, ?hy7m⟩) hHeld ?rest7m
        case hy7m =>
          intro w hSw
          try dsimp only at hSw
          go_simp
          all_goals with_reducible rfl
        try simp only [Act.put, List.setIfInBounds_toArray, List.set_cons_zero, List.set_cons_succ, List.getElem_toArray, List.getElem_cons_zero, List.getElem_cons_succ]
        refine' wpAnyH_take (i := 8) (v := ?v8m) rfl (by kernel_rfl) (by kernel_rfl) (by kernel_rfl) (fun _ _ _ h => h) (Or.inl ⟨by rfl, ?hy8m⟩) hHeld ?rest8m
        case hy8m =>
          intro w hSw
          try dsimp only at hSw
          go_simp
          all_goals with_reducible rfl
        try simp only [Act.put, List.setIfInBounds_toArray, List.set_cons_zero, List.set_cons_succ, List.getElem_toArray, List.getElem_cons_zero, List.getElem_cons_succ]
        refine' wpAnyH_take (i := 9) (v := ?v9m) rfl (by kernel_rfl) (by kernel_rfl) (by kernel_rfl) (fun _ _ _ h => h) (Or.inl ⟨by rfl, ?hy9m⟩) hHeld ?rest9m
        case hy9m =>
          intro w hSw
          try dsimp only at hSw
          go_simp
          all_goals with_reducible rfl
        try simp only [Act.put, List.setIfInBounds_toArray, List.set_cons_zero, List.set_cons_succ, List.getElem_toArray, List.getElem_cons_zero, List.getElem_cons_succ]
        refine' wpAnyH_take (i := 10) (v := ?v10m) rfl (by kernel_rfl) (by kernel_rfl) (by kernel_rfl) (fun _ _ _ h => h) (Or.inl ⟨by rfl, ?hy10m⟩) hHeld ?rest10m
        case hy10m =>
          intro w hSw
          try dsimp only at hSw
          go_simp
          all_goals with_reducible rfl
        try simp only [Act.put, List.setIfInBounds_toArray, List.set_cons_zero, List.set_cons_succ, List.getElem_toArray, List.getElem_cons_zero, List.getElem_cons_succ]
        refine' wpAnyH_take (i := 11) (v := ?v11m) rfl (by kernel_rfl) (by kernel_rfl) (by kernel_rfl) (fun _ _ _ h => h) (Or.inl ⟨by rfl, ?hy11m⟩) hHeld ?rest11m
        case hy11m =>
          intro w hSw
          try dsimp only at hSw
          go_simp
          all_goals with_reducible rfl
        try simp only [Act.put, List.setIfInBounds_toArray, List.set_cons_zero, List.set_cons_succ, List.getElem_toArray, List.getElem_cons_zero, List.getElem_cons_succ]
        refine wpAnyH_ready (rs := [0]) (by kernel_rfl) (by simp) ?_
        refine AllReadyH.cons rfl (fun K hK => ?_) AllReadyH.nil
        go_simp
        go_at_call 31
        refine (rRules_any _).mono ?_
        rintro e W12 ⟨fb, rfl, hfb, hb12⟩
        have hB12 : Below W11.heap.size W11 W12 := ((Below.refl _ _).drew).trans hb12
        have hBg : Below g W11 W12 := hB12.mono (Nat.le_of_lt HP11.out.lt)
        have HP12 := Lib.hid (HP11.out.below hB12 HP11.out.lt)
        have HR12 := Lib.hid (HR11.out.below hB12)
        have T12 := Lib.hid (T11.out.below hBg)
        have L12b := Lib.hid (L11b.out.trans hBg)
        have k12 : Hid (W12.cell? ⟨tb, tf + n * 4 + 1, none⟩ = some (.string T.text)) := (hBg.cell (p := ⟨tb, _, none⟩) htbH.out).trans k11.out
        have FB12 := Lib.hid hfb
        clear hfb hb12 hB12 hBg
        refine hK.out _ _ ?_ (fun hHeld2 => ?_)
        · exact ⟨HP12.out.cell 0, HP12.out.cell 1, k12.out⟩
        clear hK K hHeld
        have hHeld := hHeld2
        clear hHeld2
        try simp only [Act.put, List.setIfInBounds_toArray, List.set_cons_zero, List.set_cons_succ, List.getElem_toArray, List.getElem_cons_zero, List.getElem_cons_succ]
        refine wpAnyH_ready (rs := [12]) (by kernel_rfl) (by simp) ?_
        refine AllReadyH.cons rfl (fun K hK => ?_) AllReadyH.nil
        go_simp
        go_at_call 30
        refine (rfind_any _ fb 0 5 ruleWords T.text (by decide) (blk_words FB12.out)).mono ?_
        rintro e W13 ⟨rfl, hww⟩
        rw [hww]
        clear hww W13
        refine hK.out _ _ ?_ (fun hHeld2 => ?_)
        · exact ⟨HP12.out.cell 0, HP12.out.cell 1, k12.out⟩
        clear hK K hHeld
        have hHeld := hHeld2
        clear hHeld2
        try simp only [Act.put, List.setIfInBounds_toArray, List.set_cons_zero, List.set_cons_succ, List.getElem_toArray, List.getElem_cons_zero, List.getElem_cons_succ]
        refine' wpAnyH_take (i := 13) (v := ?v13m) rfl (by kernel_rfl) (by kernel_rfl) (by kernel_rfl) (fun _ _ _ h => h) (Or.inl ⟨by rfl, ?hy13m⟩) hHeld ?rest13m
        case hy13m =>
          intro w hSw
          try dsimp only at hSw
          go_simp
          all_goals with_reducible rfl
        try simp only [Act.put, List.setIfInBounds_toArray, List.set_cons_zero, List.set_cons_succ, List.getElem_toArray, List.getElem_cons_zero, List.getElem_cons_succ]
        refine wpAnyH_done (by kernel_rfl) ?_ _
        clear hHeld
        clear HP11 HR11 T11 L11b k11 k12 FB12
        obtain ⟨k, hk⟩ : ∃ k, findW ruleWords T.text = k := ⟨_, rfl⟩
        have hkH := Lib.hid hk
        by_cases h5 : k < 5
        case pos =>
          have hI : findI ruleWords T.text = (k : Int) := by unfold findI; rw [hk]; exact if_pos h5
          rw [hI]
          clear hI hk
          have q2 : (0 : Int) ≤ (k : Int) := by omega
          have d4 : decide ((0 : Int) ≤ (k : Int)) = true := decide_eq_true q2
          go_wp2_with fail
          refine (rrule_any (u := T.text) ⟨_, _, _, _, _, _, _, HP12.out, HR12.out⟩ T12.out (Nat.le_refl _) (by omega) (by omega) h5 (rule_at hkH.out h5) hTnH.out (text_eq_iff.2 rfl)).mono ?_
          rintro e W13 hp13
          have hst : st.typs.length ≤ n ∧ st.ruls.length ≤ n ∧ st.quos.length ≤ n := ⟨hst1, hst2, hst3⟩
          obtain ⟨hB15, rfl, n15, b15, hM15, hn15, hlt15⟩ := main_step hn (step_rule hTnH.out (isB_false hzH.out _ hTnH.out) hkH.out h5 hst) hR.out hp13
          have hM15 := Lib.hid hM15
          have hLn := Lib.hid (L12b.out.trans hB15)
          have hl15 := Lib.hid hlt15
          clear hp13 hB15 hlt15
          go_wp2_with fail
          go_roundw
          case rel => exact ⟨n15, b15, hM15, hLn⟩
          case measure =>
            rw [mainR_meas hM15.out, hM9.out]
            have i1 := hM15.out.1
            cases b15
            · have i2 := hl15.out rfl
              show 2 * (l.length - n15) + 1 < 2 * (l.length - n) + 1
              omega
            · show 2 * (l.length - n15) + 0 < 2 * (l.length - n) + 1
              omega
        case neg =>
          have hI : findI ruleWords T.text = -1 := by unfold findI; rw [hk]; exact if_neg h5
          rw [hI]
          clear hI hk
          have hNo : Hid (∀ t, l[n]? = some t → ¬ findW ruleWords t.text < 5) := fun t ht => by rw [hTnH.out] at ht; cases ht; rw [hkH.out]; exact h5
          clear h5
          go_wp2_with fail
          refine (ris_any W12 g g n false ⟨#[113, 117, 111, 114, 117, 109]⟩ _ _ _ _ _ _ _ _ _ l HP12.out T12.out).mono ?_
          rintro e W13 ⟨rfl, hBs⟩
          have hB13 : Below g W12 W13 := hBs.mono (Nat.le_of_lt HP12.out.lt)
          have HR13 := Lib.hid (HR12.out.below hBs)
          have HP13 := Lib.hid (HP12.out.below hBs HP12.out.lt)
          have T13 := Lib.hid (T12.out.below hB13)
          have L13b := Lib.hid (L12b.out.trans hB13)
          clear hB13 hBs HR12 HP12 T12 L12b
          obtain ⟨zq, hzq⟩ : ∃ z, isB l n ⟨#[113, 117, 111, 114, 117, 109]⟩ = z := ⟨_, rfl⟩
          rw [hzq]
          have hq0 := Lib.hid hzq
          clear hzq
          cases zq
          case true =>
            have htu : isText wQuorum T = true := by rw [← isB_at (l := l) (n := n) hTnH.out]; exact hq0.out
            have htuH := Lib.hid htu
            clear htu
            go_wp2_with fail
            refine (rquorum_any ⟨_, _, _, _, _, _, _, HP13.out, HR13.out⟩ T13.out (Nat.le_refl _) (by omega) (by omega) hTnH.out htuH.out hWd.out).mono ?_
            rintro e W14 hp13
            have hst : st.typs.length ≤ n ∧ st.ruls.length ≤ n ∧ st.quos.length ≤ n := ⟨hst1, hst2, hst3⟩
            obtain ⟨hB15, rfl, n15, b15, hM15, hn15, hlt15⟩ := main_step hn (step_quorum hTnH.out (isB_false hzH.out _ hTnH.out) htuH.out hst) hR.out hp13
            have hM15 := Lib.hid hM15
            have hLn := Lib.hid (L13b.out.trans hB15)
            have hl15 := Lib.hid hlt15
            clear hp13 hB15 hlt15
            go_wp2_with fail
            go_roundw
            case rel => exact ⟨n15, b15, hM15, hLn⟩
            case measure =>
              rw [mainR_meas hM15.out, hM9.out]
              have i1 := hM15.out.1
              cases b15
              · have i2 := hl15.out rfl
                show 2 * (l.length - n15) + 1 < 2 * (l.length - n) + 1
                omega
              · show 2 * (l.length - n15) + 0 < 2 * (l.length - n) + 1
                omega
          case false =>
            go_wp2_with fail
            refine (rkind_any ⟨_, _, _, _, _, _, _, HP13.out, HR13.out⟩ T13.out (Nat.le_refl _) hn (by omega) (by omega)).mono ?_
            rintro e W14 hp13
            have hst : st.typs.length ≤ n ∧ st.ruls.length ≤ n ∧ st.quos.length ≤ n := ⟨hst1, hst2, hst3⟩
            obtain ⟨hB15, rfl, n15, b15, hM15, hn15, hlt15⟩ := main_step hn (step_kind hzH.out hq0.out hNo.out hst) hR.out hp13
            have hM15 := Lib.hid hM15
            have hLn := Lib.hid (L13b.out.trans hB15)
            have hl15 := Lib.hid hlt15
            clear hp13 hB15 hlt15
            go_wp2_with fail
            go_roundw
            case rel => exact ⟨n15, b15, hM15, hLn⟩
            case measure =>
              rw [mainR_meas hM15.out, hM9.out]
              have i1 := hM15.out.1
              cases b15
              · have i2 := hl15.out rfl
                show 2 * (l.length - n15) + 1 < 2 * (l.length - n) + 1
                omega
              · show 2 * (l.length - n15) + 0 < 2 * (l.length - n) + 1
                omega
end Go.Proofs.YtemhiiignamkjaaDoor
namespace Go.Proofs.YtemhiiignamkjaaDoor
open Go.RowKit LexP ParP
attribute [local go_sem] Oper.semAt_some

set_option maxRecDepth 100000 in
set_option maxHeartbeats 12800000 in
theorem law_matches (s : ByteArray) (w : World) (hs : s.size ≤ maxLen) (hW : Tabs w) (hpow : PowAt w) :
    Calls Tryd.prog 3 #[.string s] w fun e w' => e = .returned (.bool true) ∧ Below w.heap.size w w' := by
  have HS := Lib.hid (fun W (h : Below w.heap.size w W) => sanity_any W (hW.below h) (hpow.below h))
  obtain ⟨o, ho⟩ : ∃ o, parse s = o := ⟨_, rfl⟩
  have HP := Lib.hid (Parse_at s w hs hW o ho)
  have hok := parse_polOk s
  rw [ho] at hok
  have HOK := Lib.hid hok
  by_cases hbig : 4100 < s.size
  · have d1 : decide (4100 < s.size) = true := decide_eq_true hbig
    have d2 : decide ((4100 : Int) < (s.size : Int)) = true := decide_eq_true (by omega)
    clear hs hW hpow hbig ho hok HP HOK
    go_enter Tryd.func3, Tryd.ntmps3
    go_wp2_with fail
    refine (HS.out w (Below.refl _ _)).mono ?_
    rintro e w1 ⟨rfl, hB1⟩
    have B1 := Lib.hid hB1
    clear hB1
    go_wp2_with fail
    go_ret
    exact ⟨rfl, B1.out⟩
  · have d1 : decide (4100 < s.size) = false := decide_eq_false hbig
    have d2 : decide ((4100 : Int) < (s.size : Int)) = false := decide_eq_false (by omega)
    have HR := Lib.hid (fun W => rParse_any s W (by omega))
    rw [ho] at HR
    clear hs hW hpow hbig ho hok
    go_enter Tryd.func3, Tryd.ntmps3
    go_wp2_with fail
    refine HP.out.mono ?_
    rintro e w1 ⟨At, ct, Ar, cr, Aq, cq, rfl, hpol, hB1⟩
    have P1 := Lib.hid hpol
    have B1 := Lib.hid hB1
    clear hpol hB1 HP
    obtain ⟨nm, hnm⟩ : ∃ n, o.pol.name = n := ⟨_, rfl⟩
    obtain ⟨T, hT⟩ : ∃ n, o.pol.typs.length = n := ⟨_, rfl⟩
    obtain ⟨R, hR⟩ : ∃ n, o.pol.ruls.length = n := ⟨_, rfl⟩
    obtain ⟨Q, hQ⟩ : ∃ n, o.pol.quos.length = n := ⟨_, rfl⟩
    obtain ⟨pos, hpos⟩ : ∃ n, o.pos = n := ⟨_, rfl⟩
    obtain ⟨er, her⟩ : ∃ n, o.err = n := ⟨_, rfl⟩
    rw [hnm, hT, hR, hQ] at P1
    rw [hnm, hT, hR, hQ, hpos, her]
    have hnmH := Lib.hid hnm
    have hTH := Lib.hid hT
    have hRH := Lib.hid hR
    have hQH := Lib.hid hQ
    have hposH := Lib.hid hpos
    have herH := Lib.hid her
    clear hnm hT hR hQ hpos her
    go_upto_region 4 with fail
    refine world_is (P := fun W => Code.wp _ _ _ _ W) (fun W2 hW2 => ?_)
    have hB2 : Below w1.heap.size w1 W2 := by rw [← hW2]; exact (Below.refl _ _).alloc (Nat.le_refl _) _
    have X2 : Hid (Blk W2 w1.heap.size 27 #[.string nm, .slice At T ct, .slice Ar R cr, .slice Aq Q cq]) := by unfold Hid; rw [← hW2]; exact Blk.new _ _ _
    have P2 := Lib.hid ((P1.out.below hB2).mono hB2.size)
    have B2 := Lib.hid (B1.out.trans (hB2.mono B1.out.size))
    obtain ⟨g, hg⟩ : ∃ g, w1.heap.size = g := ⟨_, rfl⟩
    rw [hg] at X2 ⊢
    clear hW2 hg hB2 P1 B1
    go_wp2_with fail
    refine (HR.out W2).mono ?_
    rintro e w3 ⟨vt, vr, vq, rfl, hpi, hB3⟩
    have hpa := polAt_own hpi
    obtain ⟨vt', vr', vq', hv, h1, h2, h3⟩ := hpi
    cases hv
    obtain ⟨Bt, dt, rfl⟩ := own_slice h1
    obtain ⟨Br, dr, rfl⟩ := own_slice h2
    obtain ⟨Bq, dq, rfl⟩ := own_slice h3
    rw [hnmH.out, hTH.out, hRH.out, hQH.out] at hpa
    rw [hnmH.out, hTH.out, hRH.out, hQH.out, hposH.out, herH.out]
    have P3 := Lib.hid ((P2.out.below hB3).mono hB3.size)
    have Q3 := Lib.hid hpa
    have X3 := Lib.hid (X2.out.below hB3 X2.out.lt)
    have B3 := Lib.hid (B2.out.trans (hB3.mono B2.out.size))
    clear h1 h2 h3 hpa hB3 P2 X2 B2 HR
    go_upto_region 5 with fail
    refine world_is (P := fun W => Code.wp _ _ _ _ W) (fun W4 hW4 => ?_)
    have hB4 : Below w3.heap.size w3 W4 := by rw [← hW4]; exact (Below.refl _ _).alloc (Nat.le_refl _) _
    have Y4 : Hid (Blk W4 w3.heap.size 32 #[.string nm, .slice Bt T dt, .slice Br R dr, .slice Bq Q dq, .int .i64 (pos : Int), .int .i64 er]) := by unfold Hid; rw [← hW4]; exact Blk.new _ _ _
    have P4 := Lib.hid ((P3.out.below hB4).mono hB4.size)
    have Q4 := Lib.hid ((Q3.out.below hB4).mono hB4.size)
    have X4 := Lib.hid (X3.out.below hB4 X3.out.lt)
    have B4 := Lib.hid (B3.out.trans (hB4.mono B3.out.size))
    obtain ⟨y, hy⟩ : ∃ g, w3.heap.size = g := ⟨_, rfl⟩
    rw [hy] at Y4 ⊢
    clear hW4 hy hB4 P3 Q3 X3 B3
    go_wp2_with fail
    refine (HS.out W4 B4.out).mono ?_
    rintro e w5 ⟨rfl, hB5⟩
    have P5 := Lib.hid ((P4.out.below hB5).mono hB5.size)
    have Q5 := Lib.hid ((Q4.out.below hB5).mono hB5.size)
    have X5 := Lib.hid (X4.out.below hB5 X4.out.lt)
    have Y5 := Lib.hid (Y4.out.below hB5 Y4.out.lt)
    have B5 := Lib.hid (B4.out.trans (hB5.mono B4.out.size))
    clear hB5 P4 Q4 X4 Y4 B4 HS
    have x0 := X5.out.cell 0
    have x1 := X5.out.cell 1
    have x2 := X5.out.cell 2
    have x3 := X5.out.cell 3
    have y0 := Y5.out.cell 0
    have y1 := Y5.out.cell 1
    have y2 := Y5.out.cell 2
    have y3 := Y5.out.cell 3
    go_wp2_with fail
    refine (same_any o.pol _ _ w5 P5.out Q5.out HOK.out).mono ?_
    rintro e w6 ⟨rfl, hB6⟩
    have Y6 := Lib.hid (Y5.out.below hB6 Y5.out.lt)
    have B6 := Lib.hid (B5.out.trans (hB6.mono B5.out.size))
    have y4 := Y6.out.cell 4
    have y5 := Y6.out.cell 5
    clear hB6 P5 Q5 X5 Y5 B5 x0 x1 x2 x3 y0 y1 y2 y3
    go_wp2_with fail
    go_ret
    exact ⟨rfl, B6.out⟩
end Go.Proofs.YtemhiiignamkjaaDoor
