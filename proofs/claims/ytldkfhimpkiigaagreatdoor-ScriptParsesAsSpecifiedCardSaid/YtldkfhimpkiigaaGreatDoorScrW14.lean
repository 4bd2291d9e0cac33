/-
  Layer 46 (script): Print.
-/
import Derived.Test.YtldkfhimpkiigaaGreatDoorScrW12
import Derived.Test.YtldkfhimpkiigaaGreatDoorScrW13
import Derived.Test.YtldkfhimpkiigaaGreatDoorScrP5
import Derived.Test.YtldkfhimpkiigaaGreatDoorBldW
namespace Go.Proofs.YtldkfhimpkiigaaGreatDoor
open Go.RowKit ScrP
attribute [local go_sem] Oper.semAt_some

/-- A builder that holds bytes. -/
def BIs (w : World) (B b : Nat) (l : List UInt8) : Prop := Lib.IsBuilder 72 5 B b (Lib.byteCells l) w
theorem strCells_eq (s : ByteArray) : Lib.strCells s = Lib.byteCells s.data.toList := rfl
theorem byteCells_app (l m : List UInt8) : Lib.byteCells (l ++ m) = Lib.byteCells l ++ Lib.byteCells m := by
  simp [Lib.byteCells]
theorem byteCells_len (l : List UInt8) : (Lib.byteCells l).length = l.length := by
  simp [Lib.byteCells]
theorem BIs.below {w w' : World} {B b : Nat} {l : List UInt8} (h : BIs w B b l) (hB : Below w.heap.size w w') : BIs w' B b l := by
  rcases h with h | h
  · left
    obtain ⟨h1, v, h2, h3, h4⟩ := h
    have hlt := (Array.getElem?_eq_some_iff.1 h2).1
    exact ⟨h1, v, (hB.block _ hlt).trans h2, own_keepB h3 hB, h4⟩
  · right
    obtain ⟨h1, v, h2, h3, h4⟩ := h
    have hlt := (Array.getElem?_eq_some_iff.1 h2).1
    exact ⟨h1, v, (hB.block _ hlt).trans h2, own_keepB h3 hB, h4⟩
/-- A builder under way, made in the world w0. -/
structure BSt (w0 : World) (b : Nat) (l : List UInt8) (N : Nat) (W : World) : Prop where
  bis : BIs W b b l
  bel : Below b w0 W
  len : l.length ≤ N
  le : b ≤ W.heap.size
theorem BSt.below {w0 : World} {b : Nat} {l : List UInt8} {N : Nat} {W W' : World} (h : BSt w0 b l N W) (hb : Below W.heap.size W W') : BSt w0 b l N W' :=
  ⟨h.bis.below hb, h.bel.trans (hb.mono h.le), h.len, Nat.le_trans h.le hb.size⟩
theorem BSt.cast {w0 : World} {b : Nat} {l l' : List UInt8} {N N' : Nat} {W : World} (h : BSt w0 b l N W) (hl : l' = l) (hN : N ≤ N') : BSt w0 b l' N' W := by
  subst hl
  exact ⟨h.bis, h.bel, Nat.le_trans h.len hN, h.le⟩
theorem wr_any {w0 : World} {b : Nat} {l : List UInt8} {N : Nat} {W : World} (h : BSt w0 b l N W) (s : ByteArray) (M : Nat) (hM : s.size ≤ M) (hN : N + M ≤ 10000000) :
    Calls Tryz.prog 43 #[.pointer (some ⟨b, 0, none⟩), .string s] W fun e W' => e = .returned (.tuple #[.int .i64 s.size, .nilIface]) ∧ BSt w0 b (l ++ s.data.toList) (N + M) W' ∧ Kept8 W W' b := by
  have h1 := h.len
  refine (writeS_any b b (Lib.byteCells l) s W h.bis (by rw [byteCells_len]; omega) h.le).mono ?_
  rintro e w' ⟨rfl, h2, h3, h4⟩
  refine ⟨rfl, ⟨?_, h.bel.trans h3, ?_, Nat.le_trans h.le h3.size⟩, h4⟩
  · unfold BIs
    rw [byteCells_app, ← strCells_eq]
    exact .inr h2
  · rw [List.length_append, show s.data.toList.length = s.size from Array.length_toList]
    omega
theorem BSt.lt {w0 : World} {b : Nat} {l : List UInt8} {N : Nat} {W : World} (h : BSt w0 b l N W) : b < W.heap.size := by
  rcases h.bis with h | h
  · obtain ⟨h1, v, h2, h3, h4⟩ := h
    exact (Array.getElem?_eq_some_iff.1 h2).1
  · obtain ⟨h1, v, h2, h3, h4⟩ := h
    exact (Array.getElem?_eq_some_iff.1 h2).1
theorem prefix_at (l : List UInt8) : Lib.hasPrefix l [64] = (l.head? == some 64) := by
  unfold Lib.hasPrefix
  cases l with
  | nil => rfl
  | cons c r =>
    show ((64 : UInt8) == c && true) = (some c == some 64)
    rw [Bool.and_true, Bool.eq_iff_iff, beq_iff_eq, beq_iff_eq]
    exact ⟨fun h => by rw [h], fun h => (Option.some.inj h).symm⟩
theorem flat_snoc {α β : Type} {l : List α} {i : Nat} {t : α} (f : α → List β) (h : l[i]? = some t) : (l.take (i + 1)).flatMap f = (l.take i).flatMap f ++ f t := by
  rw [take_more h, List.flatMap_append]
  simp
theorem stepB_eq (x : Stp) : stepB x = (nameN x.kind).data.toList ++ argsB x.args ++ dataB x.text ++ [10] := rfl
theorem countB_le (t : ByteArray) : Lib.countB t ⟨#[10]⟩ ≤ t.size := by
  have h1 := lines_len t
  have h2 := (linfo t).len
  omega
def PrintPost (s : Scr) (w : World) (e : Ending) (w' : World) : Prop := Below w.heap.size w w' ∧ ∃ t : ByteArray, e = .returned (.tuple #[.string t, .int .i64 (printS s).2]) ∧ t.data.toList = (printS s).1
set_option maxRecDepth 100000 in
set_option maxHeartbeats 12800000 in
theorem Print_any (s : Scr) (v : Value) (B : Nat) (w : World) (h : ScrAt w B v s) (hB : B ≤ w.heap.size) (hin : ScrIn s) (hK : KTab w) (hL : LibAt w) :
    Calls Tryz.prog 17 #[v] w (PrintPost s w) := by
  have hall := Lib.hid h
  obtain ⟨vt, vs, rfl, ht, hs⟩ := h
  obtain ⟨At, ct, rfl, htc⟩ := id ht
  have hs2 := hs
  obtain ⟨_, _, ⟨As, cs, rfl, _⟩, _⟩ := hs2
  have HTC := Lib.hid htc
  have HST := Lib.hid hs
  have HI := Lib.hid hin
  have HK := Lib.hid hK
  have HL := Lib.hid hL
  have hBH := Lib.hid hB
  obtain ⟨T, hT⟩ : ∃ n, s.texts.length = n := ⟨_, rfl⟩
  obtain ⟨N, hN⟩ : ∃ n, s.steps.length = n := ⟨_, rfl⟩
  have hTH := Lib.hid hT
  have hNH := Lib.hid hN
  rw [hT, hN] at hall
  rw [hT, hN]
  clear ht htc hs hin hK hL hB hT hN
  go_enter Tryz.func17, Tryz.ntmps17
  go_upto_region 1 with fail
  refine world_is (P := fun W => Code.wp _ _ _ _ W) (fun W0 hW0 => ?_)
  have B0 : Hid (Below w.heap.size w W0) := by unfold Hid; rw [← hW0]; exact (Below.refl _ _).alloc (Nat.le_refl _) _
  have X0 : Hid (Blk W0 w.heap.size 25 #[.slice At T ct, .slice As N cs]) := by unfold Hid; rw [← hW0]; exact Blk.new _ _ _
  obtain ⟨g, hg⟩ : ∃ g, w.heap.size = g := ⟨_, rfl⟩
  have hgH := Lib.hid hg
  rw [hg] at X0 ⊢
  clear hW0 hg
  have x0 := X0.out.cell 0
  have x1 := X0.out.cell 1
  have hC := Check_any s (.agg #[.slice At T ct, .slice As N cs]) B W0 (hall.out.below (B0.out.mono hBH.out)) (Nat.le_trans hBH.out B0.out.size) HI.out (HK.out.below B0.out) (HL.out.below B0.out)
  unfold CheckPost at hC
  obtain ⟨C, hCC⟩ : ∃ C, checkS s = C := ⟨_, rfl⟩
  rw [hCC] at hC
  have hCH := Lib.hid hC
  have hCCH := Lib.hid hCC
  clear hC hCC
  go_wp2_with fail
  refine hCH.out.mono ?_
  rintro e w1 ⟨rfl, hB1⟩
  have X1 := Lib.hid (X0.out.below hB1 X0.out.lt)
  have B1 := Lib.hid (B0.out.trans (hB1.mono B0.out.size))
  clear hB1 X0 B0 x0 x1 hCH
  by_cases hc0 : C.2 = 0
  case neg =>
    have d5 : (C.2 != 0) = true := by rw [bne_iff_ne]; exact hc0
    have hP : Hid (printS s = ([], C.2)) := by unfold Hid printS; rw [hCCH.out, if_neg hc0]
    clear hc0
    go_wp2_with fail
    go_ret2
    exact ⟨B1.out, ⟨#[]⟩, (by rw [hP.out]; rfl), by rw [hP.out]⟩
  case pos =>
  have d5 : (C.2 != 0) = false := by rw [hc0]; rfl
  have hOK := Lib.hid (check_ok (s := s) (by rw [hCCH.out]; exact hc0))
  have hP : Hid (printS s = (printB s, 0)) := by unfold Hid printS; rw [hCCH.out, if_pos hc0]
  clear hc0
  go_upto_region 5 with fail
  refine world_is (P := fun W => Code.wp _ _ _ _ W) (fun W1 hW1 => ?_)
  obtain ⟨b, hb⟩ : ∃ b, w1.heap.size = b := ⟨_, rfl⟩
  have S1 : Hid (BSt w1 b [] 0 W1) := by
    have h1 : Below w1.heap.size w1 W1 := by rw [← hW1]; exact (Below.refl _ _).alloc (Nat.le_refl _) _
    have h2 : BIs W1 w1.heap.size w1.heap.size [] := by
      rw [← hW1]
      exact Or.inl ⟨Nat.le_refl _, .slice none 0 0, heap_alloc_new w1 _, World.ownsRow_nil _ _ _ _, by simp [Value.ownBlock]⟩
    rw [hb] at h1 h2
    exact ⟨h2, h1, Nat.le_refl _, by rw [← hb, ← hW1, World.size_alloc]; omega⟩
  have hgb : Hid (g < b) := by unfold Hid; rw [← hb]; exact X1.out.lt
  have hwb : Hid (w.heap.size ≤ b) := by unfold Hid; rw [← hb]; exact B1.out.size
  have hBb : Hid (B ≤ b) := Nat.le_trans hBH.out hwb.out
  rw [hb]
  clear hW1 hb d5
  -- what stands in every world behind the builder's making
  have HX : Hid (∀ W, Below b w1 W → Blk W g 25 #[.slice At T ct, .slice As N cs] ∧ Below w.heap.size w W) := fun W h => ⟨X1.out.below h hgb.out, B1.out.trans (h.mono hwb.out)⟩
  clear X1 B1
  have x0 := (HX.out _ S1.out.bel).1.cell 0
  have hT8 : T ≤ 8 := by rw [← hTH.out]; exact hOK.out.nt
  have hN4 : N ≤ 400 := by rw [← hNH.out]; exact hOK.out.ns
  go_wp2_with fail
  go_loopw [24] (fun v24 wr => ∃ i : Nat, v24 = .int .i64 (i : Int) ∧ i ≤ T ∧ Hid (BSt w1 b ((s.texts.take i).flatMap textB) (10000 * i) wr)) (fun v24 _ => T - (intOf v24).toNat)
  case atStart => exact ⟨0, rfl, Nat.zero_le _, S1.out⟩
  case round =>
  clear S1 x0
  obtain ⟨i, rfl, hi, S2⟩ := hrel
  obtain ⟨wo, rfl⟩ : ∃ x, x = wr := ⟨_, rfl⟩
  by_cases hlt : i < T
  case pos =>
    have d1 : decide (i < T) = true := decide_eq_true hlt
    have d2 : decide ((i : Int) < (T : Int)) = true := decide_eq_true (by omega)
    obtain ⟨t, ht⟩ : ∃ t, s.texts[i]? = some t := ⟨_, List.getElem?_eq_getElem (by rw [hTH.out]; exact hlt)⟩
    obtain ⟨tb, to_, rfl, htb, htc⟩ := HTC.out (by rw [hTH.out]; omega)
    have hBW := (HX.out _ S2.out.bel).2
    have k0 : wo.cell? ⟨tb, to_ + i, none⟩ = some (.string t) := (hBW.cell (p := ⟨tb, to_ + i, none⟩) (Nat.lt_of_lt_of_le htb hBH.out)).trans (htc i (.string t) (by unfold strsC; rw [List.getElem?_map, ht]; rfl))
    have htz := Lib.hid (hOK.out.txt t (List.mem_of_getElem? ht))
    have hsn := Lib.hid (flat_snoc textB ht)
    have q0 : (0 : Int) ≤ (i : Int) := by omega
    have q1 : (i : Int) < (T : Int) := by omega
    have q2 : (T : Int) ≤ 8 := by omega
    have hltH := Lib.hid hlt
    have hiH : Hid (i < 8) := by unfold Hid; omega
    obtain ⟨_, mx, hmx⟩ := (HL.out.below hBW).mx
    have HR := Tryz.strings_ReplaceAll t ⟨#[10]⟩ ⟨#[10, 124]⟩ mx wo (by have := htz.out; omega) hmx (by decide) (by
      have h1 := countB_le t
      have h2 := htz.out
      have h3 : Lib.countB t ⟨#[10]⟩ * (⟨#[10, 124]⟩ : ByteArray).size ≤ 4000 * 2 := Nat.mul_le_mul (by omega) (by decide)
      omega)
    rw [show Lib.replaceAll t.data.toList (⟨#[10]⟩ : ByteArray).data.toList (⟨#[10, 124]⟩ : ByteArray).data.toList = barB t.data.toList from repl_all _] at HR
    have hRz : (⟨(barB t.data.toList).toArray⟩ : ByteArray).size ≤ 8000 := by
      show (barB t.data.toList).toArray.size ≤ 8000
      have h1 := barB_len t.data.toList
      have h2 : t.data.toList.length = t.size := Array.length_toList
      have h3 := htz.out
      rw [List.size_toArray]
      omega
    have hRd : (⟨(barB t.data.toList).toArray⟩ : ByteArray).data.toList = barB t.data.toList := rfl
    obtain ⟨R, hR⟩ : ∃ R, (⟨(barB t.data.toList).toArray⟩ : ByteArray) = R := ⟨_, rfl⟩
    rw [hR] at HR hRz hRd
    have HRH := Lib.hid HR
    have hRzH := Lib.hid hRz
    have hRdH := Lib.hid hRd
    clear HR hRz hRd hR hmx hBW ht htc hlt
    obtain ⟨U1, hU1⟩ : ∃ U, (⟨#[116, 101, 120, 116, 10, 124]⟩ : ByteArray) ++ R = U := ⟨_, rfl⟩
    have aU1 : ∀ wx, (Op.stringOp .add (⟨#[116, 101, 120, 116, 10, 124]⟩ : ByteArray) R).run Tryz.prog wx = .ok (.string U1) wx := fun wx => by
      rw [← hU1]
      exact run_string_add_sum wx _ _ (by show 6 + R.size ≤ _; have := hRzH.out; omega)
    have hU1s : Hid (U1.size = 6 + R.size) := by unfold Hid; rw [← hU1, ByteArray.size_append]; rfl
    obtain ⟨U2, hU2⟩ : ∃ U, U1 ++ (⟨#[10]⟩ : ByteArray) = U := ⟨_, rfl⟩
    have aU2 : ∀ wx, (Op.stringOp .add U1 (⟨#[10]⟩ : ByteArray)).run Tryz.prog wx = .ok (.string U2) wx := fun wx => by
      rw [← hU2]
      exact run_string_add_sum wx _ _ (by show U1.size + 1 ≤ _; have := hRzH.out; have := hU1s.out; omega)
    have hU2s : Hid (U2.size ≤ 10000) := by
      unfold Hid
      rw [← hU2, ByteArray.size_append]
      show U1.size + 1 ≤ 10000
      have := hRzH.out
      have := hU1s.out
      omega
    have hU2d : Hid (U2.data.toList = textB t) := by
      unfold Hid
      rw [← hU2, ← hU1, ByteArray.data_append, Array.toList_append, ByteArray.data_append, Array.toList_append, hRdH.out]
      rfl
    clear hU1 hU2
    have hNx : Hid (10000 * i + 10000 ≤ 10000000) := by unfold Hid; have := hiH.out; omega
    go_wp2_with fail
    refine HRH.out.mono ?_
    rintro e w3 ⟨rfl, hB3⟩
    have S3 := Lib.hid (S2.out.below hB3)
    clear hB3 S2 HRH k0
    go_wp2_with fail
    refine (wr_any S3.out U2 10000 hU2s.out hNx.out).mono ?_
    rintro e w4 ⟨rfl, hS4, _⟩
    have S4 := Lib.hid hS4
    clear hS4 S3
    go_wp2_with fail
    go_roundw
    case rel =>
      refine ⟨i + 1, by go_num, hltH.out, ?_⟩
      exact S4.out.cast (by rw [hsn.out, hU2d.out]) (by omega)
    case measure => have := hltH.out; simp [intOf]; omega
  case neg =>
  have d1 : decide (i < T) = false := decide_eq_false hlt
  have d2 : decide ((i : Int) < (T : Int)) = false := decide_eq_false (by omega)
  have htk : s.texts.take i = s.texts := List.take_of_length_le (by rw [hTH.out]; omega)
  have x1 := (HX.out _ S2.out.bel).1.cell 1
  obtain ⟨P, hPP⟩ : ∃ P, s.texts.flatMap textB = P := ⟨_, rfl⟩
  have S3 : Hid (BSt w1 b (P ++ (s.steps.take 0).flatMap stepB) (100000 + 10000 * 0) wo) := S2.out.cast (by rw [htk, hPP]; simp) (by omega)
  have hPPH := Lib.hid hPP
  clear htk hPP S2 hlt
  go_wp2_with fail
  go_loopw [37] (fun v37 wr => ∃ i : Nat, v37 = .int .i64 (i : Int) ∧ i ≤ N ∧ Hid (BSt w1 b (P ++ (s.steps.take i).flatMap stepB) (100000 + 10000 * i) wr)) (fun v37 _ => N - (intOf v37).toNat)
  case atStart => exact ⟨0, rfl, Nat.zero_le _, S3.out⟩
  case round =>
  clear S3 x1 d1 d2 hi
  obtain ⟨i, rfl, hi, S2⟩ := hrel
  obtain ⟨wo, rfl⟩ : ∃ x, x = wr := ⟨_, rfl⟩
  by_cases hlt : i < N
  case neg =>
    have d1 : decide (i < N) = false := decide_eq_false hlt
    have d2 : decide ((i : Int) < (N : Int)) = false := decide_eq_false (by omega)
    have htk : s.steps.take i = s.steps := List.take_of_length_le (by rw [hNH.out]; omega)
    have hBW := Lib.hid (HX.out _ S2.out.bel).2
    have hS3 : BIs wo b b (P ++ s.steps.flatMap stepB) := by have h := S2.out.bis; rw [htk] at h; exact h
    have HB := Lib.hid (Tryz.Builder_String_any b b _ wo hS3 S2.out.le)
    have hPd : Hid (P ++ s.steps.flatMap stepB = printB s) := by unfold Hid printB; rw [hPPH.out]
    clear htk hS3 hlt S2
    go_wp2_with fail
    refine HB.out.mono ?_
    rintro e w4 ⟨rfl, hB4⟩
    have hL4 := Lib.hid (hBW.out.trans (hB4.mono hwb.out))
    clear hB4
    go_wp2_with fail
    go_ret2
    exact ⟨hL4.out, _, by rw [hP.out]; rfl, by rw [hP.out]; exact hPd.out⟩
  case pos =>
  have d1 : decide (i < N) = true := decide_eq_true hlt
  have d2 : decide ((i : Int) < (N : Int)) = true := decide_eq_true (by omega)
  obtain ⟨x, hx⟩ : ∃ x, s.steps[i]? = some x := ⟨_, List.getElem?_eq_getElem (by rw [hNH.out]; exact hlt)⟩
  obtain ⟨rb, ro, u, rfl, hrb, y0, y1, y2, hrow⟩ := HST.out.at_ hx
  obtain ⟨Aa, ca, rfl, hac⟩ := hrow
  have hBW := (HX.out _ S2.out.bel).2
  have k0 := (hBW.cell (p := ⟨rb, _, none⟩) (Nat.lt_of_lt_of_le hrb hBH.out)).trans y0
  have k1 := (hBW.cell (p := ⟨rb, _, none⟩) (Nat.lt_of_lt_of_le hrb hBH.out)).trans y1
  have k2 := (hBW.cell (p := ⟨rb, _, none⟩) (Nat.lt_of_lt_of_le hrb hBH.out)).trans y2
  have HAC := Lib.hid hac
  have hxo := Lib.hid (stpB_of (hOK.out.stp x (List.mem_of_getElem? hx)))
  have hsn := Lib.hid (flat_snoc stepB hx)
  have q0 : (0 : Int) ≤ (i : Int) := by omega
  have q1 : (i : Int) < (N : Int) := by omega
  have q2 : (N : Int) ≤ 400 := by omega
  have hltH := Lib.hid hlt
  have hiH : Hid (i < 400) := by unfold Hid; omega
  obtain ⟨n, hn⟩ : ∃ n, x.args.length = n := ⟨_, rfl⟩
  have hn18 : n ≤ 18 := by rw [← hn]; exact hxo.out.nargs
  have hnH := Lib.hid hn
  rw [hn] at k1
  obtain ⟨H, hH⟩ : ∃ H, P ++ (s.steps.take i).flatMap stepB = H := ⟨_, rfl⟩
  rw [hH] at S2
  have hHH := Lib.hid hH
  obtain ⟨nm, hnm⟩ : ∃ m, nameN x.kind = m := ⟨_, rfl⟩
  have hnmz : Hid (nm.size ≤ 10) := by unfold Hid; rw [← hnm]; exact nameN_small _
  have hnmH := Lib.hid hnm
  clear y0 y1 y2 hBW hx hlt hac hn hH hnm hrb
  go_upto_region 13 with fail
  refine world_is (P := fun W => Code.wp _ _ _ _ W) (fun W3 hW3 => ?_)
  have hb3 : Below wo.heap.size wo W3 := by rw [← hW3]; exact (Below.refl _ _).alloc (Nat.le_refl _) _
  have EB : Hid (Blk W3 wo.heap.size 53 #[.int .i64 x.kind, .slice Aa n ca, .string x.text]) := by unfold Hid; rw [← hW3]; exact Blk.new _ _ _
  have S3 := Lib.hid (S2.out.below hb3)
  obtain ⟨a, ea⟩ : ∃ z, wo.heap.size = z := ⟨_, rfl⟩
  have hab : Hid (a ≠ b) := by unfold Hid; rw [← ea]; exact Nat.ne_of_gt S2.out.lt
  rw [ea] at EB ⊢
  clear hW3 hb3 ea S2 k0 k1 k2
  have b0 := EB.out.cell 0
  have HNm := Name_any x.kind W3 (HK.out.below (HX.out _ S3.out.bel).2)
  rw [hnmH.out] at HNm
  have HNH := Lib.hid HNm
  have hNx : Hid (100000 + 10000 * i + 10 ≤ 10000000) := by unfold Hid; have := hiH.out; omega
  clear HNm
  go_wp2_with fail
  refine HNH.out.mono ?_
  rintro e w4 ⟨rfl, hww⟩
  rw [hww]
  clear hww w4 HNH
  go_wp2_with fail
  refine (wr_any S3.out nm 10 hnmz.out hNx.out).mono ?_
  rintro e w5 ⟨rfl, hS5, hK5⟩
  have S5 := Lib.hid hS5
  have EB5 := Lib.hid (hK5 a _ _ hab.out (by decide) EB.out)
  clear hS5 hK5 S3 EB b0
  have b1 := EB5.out.cell 1
  go_wp2_with fail
  go_loopw [48] (fun v48 wr => ∃ j : Nat, v48 = .int .i64 (j : Int) ∧ j ≤ n ∧ Hid (BSt w1 b (H ++ nm.data.toList ++ argsB (x.args.take j)) (100000 + 10000 * i + 10 + 30 * j) wr) ∧ Hid (Blk wr a 53 #[.int .i64 x.kind, .slice Aa n ca, .string x.text])) (fun v48 _ => n - (intOf v48).toNat)
  case atStart => exact ⟨0, rfl, Nat.zero_le _, S5.out.cast (by simp [argsB]) (by omega), EB5.out⟩
  case round =>
  clear S5 EB5 b1
  obtain ⟨j, rfl, hj, S6, EB6⟩ := hrel
  obtain ⟨wq, rfl⟩ : ∃ z, z = wr := ⟨_, rfl⟩
  by_cases hjn : j < n
  case pos =>
    have d3 : decide (j < n) = true := decide_eq_true hjn
    have d4 : decide ((j : Int) < (n : Int)) = true := decide_eq_true (by omega)
    obtain ⟨z, hz⟩ : ∃ z, x.args[j]? = some z := ⟨_, List.getElem?_eq_getElem (by rw [hnH.out]; exact hjn)⟩
    obtain ⟨ab, ao, rfl, hab2, hcz⟩ := HAC.out (by rw [hnH.out]; omega)
    have hBW := (HX.out _ S6.out.bel).2
    have c0 : wq.cell? ⟨ab, ao + j, none⟩ = some (.int .i64 z) := (hBW.cell (p := ⟨ab, ao + j, none⟩) (Nat.lt_of_lt_of_le hab2 hBH.out)).trans (hcz j (.int .i64 z) (by unfold intsC; rw [List.getElem?_map, hz]; rfl))
    have hzb := hxo.out.args z (List.mem_of_getElem? hz)
    have hIt := itoa_any z (by omega) (by omega) wq (HL.out.below hBW)
    have hIz : (⟨(Lib.itoa z).toArray⟩ : ByteArray).size ≤ 21 := by
      show (Lib.itoa z).toArray.size ≤ 21
      rw [List.size_toArray]
      exact Lib.itoa_length_le z (by omega) (by omega)
    have hId : (⟨(Lib.itoa z).toArray⟩ : ByteArray).data.toList = Lib.itoa z := rfl
    obtain ⟨It, hI⟩ : ∃ R, (⟨(Lib.itoa z).toArray⟩ : ByteArray) = R := ⟨_, rfl⟩
    rw [hI] at hIt hIz hId
    have HItH := Lib.hid hIt
    have hIzH := Lib.hid hIz
    have hsj : Hid (argsB (x.args.take (j + 1)) = argsB (x.args.take j) ++ 32 :: Lib.itoa z) := flat_snoc (fun a : Int => 32 :: Lib.itoa a) hz
    obtain ⟨U, hU⟩ : ∃ U, (⟨#[32]⟩ : ByteArray) ++ It = U := ⟨_, rfl⟩
    have aU : ∀ wx, (Op.stringOp .add (⟨#[32]⟩ : ByteArray) It).run Tryz.prog wx = .ok (.string U) wx := fun wx => by
      rw [← hU]
      exact run_string_add_sum wx _ _ (by show 1 + It.size ≤ _; have := hIzH.out; omega)
    have hUs : Hid (U.size ≤ 30) := by
      unfold Hid
      rw [← hU, ByteArray.size_append]
      show 1 + It.size ≤ 30
      omega
    have hUd : Hid (U.data.toList = 32 :: Lib.itoa z) := by
      unfold Hid
      rw [← hU, ByteArray.data_append, Array.toList_append, hId]
      rfl
    have q3 : (0 : Int) ≤ (j : Int) := by omega
    have q4 : (j : Int) < (n : Int) := by omega
    have q5 : (n : Int) ≤ 18 := by omega
    have hjH := Lib.hid hjn
    have hNy : Hid (100000 + 10000 * i + 10 + 30 * j + 30 ≤ 10000000) := by unfold Hid; have := hiH.out; omega
    clear hz hcz hBW hzb hIt hIz hId hI hU hjn hab2
    go_wp2_with fail
    refine HItH.out.mono ?_
    rintro e w6 ⟨rfl, hB6⟩
    have S7 := Lib.hid (S6.out.below hB6)
    have EB7 := Lib.hid (EB6.out.below hB6 EB6.out.lt)
    clear hB6 S6 EB6 HItH c0
    go_wp2_with fail
    refine (wr_any S7.out U 30 hUs.out hNy.out).mono ?_
    rintro e w7 ⟨rfl, hS8, hK8⟩
    have S8 := Lib.hid hS8
    have EB8 := Lib.hid (hK8 a _ _ hab.out (by decide) EB7.out)
    clear hS8 hK8 S7 EB7
    go_wp2_with fail
    go_roundw
    case rel =>
      refine ⟨j + 1, by go_num, hjH.out, ?_, EB8.out⟩
      refine S8.out.cast ?_ (by omega)
      rw [hsj.out, hUd.out]
      simp only [List.append_assoc]
    case measure => have := hjH.out; simp [intOf]; omega
  case neg =>
  have d3 : decide (j < n) = false := decide_eq_false hjn
  have d4 : decide ((j : Int) < (n : Int)) = false := decide_eq_false (by omega)
  have htk : x.args.take j = x.args := List.take_of_length_le (by rw [hnH.out]; omega)
  have S7 : Hid (BSt w1 b (H ++ nm.data.toList ++ argsB x.args) (100000 + 10000 * i + 550) wq) := S6.out.cast (by rw [htk]) (by omega)
  have b2 := EB6.out.cell 2
  have HPx := Lib.hid (Tryz.strings_HasPrefix x.text ⟨#[64]⟩ wq)
  obtain ⟨hb64, hhb⟩ : ∃ c, Lib.hasPrefix x.text.data.toList (⟨#[64]⟩ : ByteArray).data.toList = c := ⟨_, rfl⟩
  rw [hhb] at HPx
  have hhbH : Hid ((x.text.data.toList.head? == some 64) = hb64) := by
    unfold Hid
    rw [← hhb]
    exact (prefix_at x.text.data.toList).symm
  have htz := Lib.hid hxo.out.text
  clear htk S6 hhb hjn hj
  go_wp2_with fail
  refine HPx.out.mono ?_
  rintro e w6 ⟨rfl, hww⟩
  rw [hww]
  clear hww w6 HPx
  cases hb64
  case true =>
    have hD : Hid (dataB x.text = 32 :: x.text.data.toList) := by
      have h := hhbH.out
      unfold Hid dataB
      cases hl : x.text.data.toList with
      | nil => rw [hl] at h; cases h
      | cons c r =>
        rw [hl] at h
        obtain rfl : c = 64 := Option.some.inj (beq_iff_eq.1 h)
        dsimp only
        rw [if_pos rfl]
    obtain ⟨U, hU⟩ : ∃ U, (⟨#[32]⟩ : ByteArray) ++ x.text = U := ⟨_, rfl⟩
    have aU : ∀ wx, (Op.stringOp .add (⟨#[32]⟩ : ByteArray) x.text).run Tryz.prog wx = .ok (.string U) wx := fun wx => by
      rw [← hU]
      exact run_string_add_sum wx _ _ (by show 1 + x.text.size ≤ _; have := htz.out; omega)
    have hUs : Hid (U.size ≤ 5000) := by
      unfold Hid
      rw [← hU, ByteArray.size_append]
      show 1 + x.text.size ≤ 5000
      have := htz.out
      omega
    have hUd : Hid (dataB x.text = U.data.toList) := by
      unfold Hid
      rw [hD.out, ← hU, ByteArray.data_append, Array.toList_append]
      try rfl
    have hNy : Hid (100000 + 10000 * i + 550 + 5000 ≤ 10000000) := by unfold Hid; have := hiH.out; omega
    clear hU
    go_wp2_with fail
    refine (wr_any S7.out U 5000 hUs.out hNy.out).mono ?_
    rintro e w7 ⟨rfl, hS8, _⟩
    have S8 := Lib.hid hS8
    clear hS8 S7
    have hfin : Hid (100000 + 10000 * i + 550 + 5000 + 1 ≤ 10000000) := by unfold Hid; have := hiH.out; omega
    go_wp2_with fail
    refine (wr_any S8.out ⟨#[10]⟩ 1 (Nat.le_refl _) hfin.out).mono ?_
    rintro e w9 ⟨rfl, hS9, _⟩
    have S9 := Lib.hid hS9
    clear hS9 S8
    go_wp2_with fail
    go_roundw
    case rel =>
      refine ⟨i + 1, by go_num, hltH.out, ?_⟩
      refine S9.out.cast ?_ (by omega)
      rw [hsn.out, ← List.append_assoc, hHH.out, stepB_eq, hnmH.out, hUd.out]
      simp only [List.append_assoc]
      try rfl
    case measure => have := hltH.out; simp [intOf]; omega
  case false =>
    cases hl : x.text.data.toList with
    | nil =>
      have e1 : (x.text.toList == []) = true := by rw [ByteArray.toList_eq, hl]; rfl
      have e2 : x.text.toList = [] := by rw [ByteArray.toList_eq, hl]
      have hUd : Hid (dataB x.text = []) := by unfold Hid dataB; rw [hl]
      clear hl
      have hfin : Hid (100000 + 10000 * i + 550 + 1 ≤ 10000000) := by unfold Hid; have := hiH.out; omega
      go_wp2_with fail
      refine (wr_any S7.out ⟨#[10]⟩ 1 (Nat.le_refl _) hfin.out).mono ?_
      rintro e w9 ⟨rfl, hS9, _⟩
      have S9 := Lib.hid hS9
      clear hS9 S7
      go_wp2_with fail
      go_roundw
      case rel =>
        refine ⟨i + 1, by go_num, hltH.out, ?_⟩
        refine S9.out.cast ?_ (by omega)
        rw [hsn.out, ← List.append_assoc, hHH.out, stepB_eq, hnmH.out, hUd.out]
        simp only [List.append_assoc]
        try rfl
      case measure => have := hltH.out; simp [intOf]; omega
    | cons c r =>
      have e1 : (x.text.toList == []) = false := by rw [ByteArray.toList_eq, hl]; rfl
      have e2 : ¬ x.text.toList = [] := by rw [ByteArray.toList_eq, hl]; simp
      obtain ⟨hx1, hx2⟩ := ext_tail hl
      have hf := str_from x.text 1 (by rw [hx2]; omega)
      rw [hx1, show ((1 : Nat) : Int) = 1 from rfl] at hf
      have hrz : (⟨r.toArray⟩ : ByteArray).size + 1 = x.text.size := by show r.toArray.size + 1 = _; rw [List.size_toArray]; exact hx2.symm
      have HE := encoded_any ⟨r.toArray⟩ wq (by have := htz.out; omega)
      unfold EncPost at HE
      rw [show (⟨r.toArray⟩ : ByteArray).data.toList = r from rfl] at HE
      have hD : Hid (dataB x.text = 32 :: 61 :: hexB r) := by
        have h := hhbH.out
        unfold Hid dataB
        rw [hl]
        dsimp only
        rw [hl] at h
        rw [if_neg (fun e => by rw [e] at h; cases h)]
      have hhz : Hid ((hexB r).length ≤ 8002) := by unfold Hid; rw [hexB_len]; have := htz.out; omega
      obtain ⟨tl, htl⟩ : ∃ q, (⟨r.toArray⟩ : ByteArray) = q := ⟨_, rfl⟩
      rw [htl] at hf HE
      have HEH := Lib.hid HE
      clear hl hx1 hx2 hrz HE htl
      go_wp2_with fail
      refine HEH.out.mono ?_
      rintro e w6 ⟨hB6, t, rfl, htd⟩
      have S8 := Lib.hid (S7.out.below hB6)
      have htsz : Hid (t.size ≤ 8002) := by unfold Hid; rw [show t.size = t.data.toList.length from Array.length_toList.symm, htd]; exact hhz.out
      have htdH := Lib.hid htd
      clear hB6 S7 HEH htd
      obtain ⟨U, hU⟩ : ∃ U, (⟨#[32, 61]⟩ : ByteArray) ++ t = U := ⟨_, rfl⟩
      have aU : ∀ wx, (Op.stringOp .add (⟨#[32, 61]⟩ : ByteArray) t).run Tryz.prog wx = .ok (.string U) wx := fun wx => by
        rw [← hU]
        exact run_string_add_sum wx _ _ (by show 2 + t.size ≤ _; have := htsz.out; omega)
      have hUs : Hid (U.size ≤ 9000) := by
        unfold Hid
        rw [← hU, ByteArray.size_append]
        show 2 + t.size ≤ 9000
        have := htsz.out
        omega
      have hUd : Hid (dataB x.text = U.data.toList) := by
        unfold Hid
        rw [hD.out, ← hU, ByteArray.data_append, Array.toList_append, htdH.out]
        rfl
      have hNy : Hid (100000 + 10000 * i + 550 + 9000 ≤ 10000000) := by unfold Hid; have := hiH.out; omega
      clear hU
      go_wp2_with fail
      refine (wr_any S8.out U 9000 hUs.out hNy.out).mono ?_
      rintro e w7 ⟨rfl, hS8, _⟩
      have SA := Lib.hid hS8
      clear hS8 S8
      have hfin : Hid (100000 + 10000 * i + 550 + 9000 + 1 ≤ 10000000) := by unfold Hid; have := hiH.out; omega
      go_wp2_with fail
      refine (wr_any SA.out ⟨#[10]⟩ 1 (Nat.le_refl _) hfin.out).mono ?_
      rintro e w9 ⟨rfl, hS9, _⟩
      have S9 := Lib.hid hS9
      clear hS9 SA
      go_wp2_with fail
      go_roundw
      case rel =>
        refine ⟨i + 1, by go_num, hltH.out, ?_⟩
        refine S9.out.cast ?_ (by omega)
        rw [hsn.out, ← List.append_assoc, hHH.out, stepB_eq, hnmH.out, hUd.out]
        simp only [List.append_assoc]
        try rfl
      case measure => have := hltH.out; simp [intOf]; omega
end Go.Proofs.YtldkfhimpkiigaaGreatDoor
