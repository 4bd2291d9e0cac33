/-
  Layer 12 (parse): tables of words; Word, Command; name, number, accept.
-/
import Derived.Test.YtemhiiignamkjaaDoorParW1
import Derived.Lib.SlicesS
namespace Go.Proofs.YtemhiiignamkjaaDoor
open Go.RowKit LexP ParP
attribute [local go_sem] Oper.semAt_some

/-- A list of words in a package's variable. -/
def TabS (w : World) (G : Nat) (zs : List ByteArray) : Prop :=
  ∃ b o c, w.cell? ⟨G, 0, none⟩ = some (.slice (some ⟨b, o, none⟩) zs.length c) ∧ b < w.heap.size ∧ ∀ j z, zs[j]? = some z → w.cell? ⟨b, o + j, none⟩ = some (.string z)
theorem TabS.lt {w : World} {G : Nat} {zs : List ByteArray} (h : TabS w G zs) : G < w.heap.size := by
  obtain ⟨b, o, c, h1, _⟩ := h
  exact World.block_lt_of_cell? w _ h1
theorem TabS.below {w w' : World} {G : Nat} {zs : List ByteArray} (h : TabS w G zs) (hb : Below w.heap.size w w') : TabS w' G zs := by
  have hl := h.lt
  obtain ⟨b, o, c, h1, h2, h3⟩ := h
  exact ⟨b, o, c, (hb.cell (p := ⟨G, 0, none⟩) hl).trans h1, Nat.lt_of_lt_of_le h2 hb.size, fun j z hz => (hb.cell (p := ⟨b, o + j, none⟩) h2).trans (h3 j z hz)⟩
/-- The tables of the program lie below block B. -/
structure TabsAt (w : World) (B : Nat) : Prop where
  le : B ≤ w.heap.size
  flags : ∀ w', Below B w w' → TabS w' 0 flagWords
  rules : ∀ w', Below B w w' → TabS w' 1 ruleWords
  commands : ∀ w', Below B w w' → TabS w' 2 commandWords
theorem TabsAt.below {w w' : World} {B : Nat} (h : TabsAt w B) (hb : Below B w w') : TabsAt w' B :=
  ⟨Nat.le_trans h.le hb.size, fun v hv => h.flags v (hb.trans hv), fun v hv => h.rules v (hb.trans hv), fun v hv => h.commands v (hb.trans hv)⟩
theorem idx_find (x : ByteArray) : ∀ (zs : List ByteArray) (i : Nat), Lib.idxFromS zs x i = if findW zs x < zs.length then ((i + findW zs x : Nat) : Int) else -1
  | [], i => by simp [Lib.idxFromS, findW]
  | z :: zs, i => by
    by_cases h : z = x
    · subst h
      simp [Lib.idxFromS, findW, List.findIdx_cons]
    · have hb : (z.toList == x.toList) = false := by
        rw [beq_eq_false_iff_ne]
        intro e
        rw [ByteArray.toList_eq, ByteArray.toList_eq] at e
        exact h (ByteArray.ext (Array.ext' e))
      have ih := idx_find x zs (i + 1)
      have hf : findW (z :: zs) x = findW zs x + 1 := by
        unfold findW
        rw [List.findIdx_cons, hb]
        rfl
      rw [hf]
      simp only [Lib.idxFromS, h, if_false, List.length_cons, Nat.add_lt_add_iff_right]
      rw [ih]
      split
      · congr 1; omega
      · rfl
theorem indexS_any (w : World) (b o c : Nat) (zs : List ByteArray) (x : ByteArray) (hl : zs.length ≤ 1000) (hc : ∀ j z, zs[j]? = some z → w.cell? ⟨b, o + j, none⟩ = some (.string z)) :
    Calls Tryd.prog 47 #[.slice (some ⟨b, o, none⟩) zs.length c, .string x] w fun e w' => e = .returned (.int .i64 (if findW zs x < zs.length then (findW zs x : Int) else -1)) ∧ w' = w := by
  refine (Tryd.slices_Index_string b o zs.length c zs x w (Nat.le_refl _) (by omega) (fun j hj => ?_)).mono ?_
  · rw [hc j zs[j] (List.getElem?_eq_getElem hj), List.getD_eq_getElem?_getD, List.getElem?_eq_getElem hj]
    rfl
  · rintro e w' ⟨rfl, rfl⟩
    refine ⟨?_, rfl⟩
    rw [List.take_length, Lib.idxOfS, idx_find]
    simp
set_option maxRecDepth 100000 in
set_option maxHeartbeats 4000000 in
theorem Command_any (s : ByteArray) (w : World) (hC : TabS w 2 commandWords) :
    Calls Tryd.prog 18 #[.string s] w fun e w' => e = .returned (.int .i64 (commandN s)) ∧ w' = w := by
  obtain ⟨b, o, c, h1, h2, h3⟩ := hC
  have e27 : commandWords.length = 27 := rfl
  have hle : findW commandWords s ≤ 27 := List.findIdx_le_length
  have hIX := Lib.hid (indexS_any w b o c commandWords s (by rw [e27]; decide) h3)
  have hres : Hid ((if findW commandWords s < commandWords.length then (findW commandWords s : Int) else -1) + 1 = (commandN s : Int)) := by
    unfold Hid commandN
    rw [e27]
    split <;> omega
  have hrl : Hid (commandN s ≤ 27) := by unfold Hid commandN; split <;> omega
  obtain ⟨z, hz⟩ : ∃ z : Int, (if findW commandWords s < commandWords.length then (findW commandWords s : Int) else -1) = z := ⟨_, rfl⟩
  rw [hz] at hIX hres
  have hw : Hid (wrap64 (z + 1) = (commandN s : Int)) := by
    have h1 := hres.out
    have h2 := hrl.out
    unfold Hid
    rw [h1, wrap64]
    omega
  clear h3 hz hle
  go_enter Tryd.func18, Tryd.ntmps18
  go_wp2_with (go_at_call 47; refine hIX.out.mono ?_; rintro e w' ⟨rfl, rfl⟩)
  go_ret
  exact ⟨by rw [hw.out]; rfl, rfl⟩
/-- The word of a command's kind. -/
def wordN (z : Int) : ByteArray := if 1 ≤ z ∧ z ≤ 27 then commandWords.getD (z.toNat - 1) ⟨#[]⟩ else ⟨#[]⟩
set_option maxRecDepth 100000 in
set_option maxHeartbeats 4000000 in
theorem Word_any (z : Int) (h0 : -9223372036854775808 ≤ z) (h1 : z ≤ 9223372036854775807) (w : World) (hC : TabS w 2 commandWords) :
    Calls Tryd.prog 16 #[.int .i64 z] w fun e w' => e = .returned (.string (wordN z)) ∧ Below w.heap.size w w' := by
  obtain ⟨b, o, c, h1, h2, h3⟩ := hC
  have e27 : commandWords.length = 27 := rfl
  rw [e27] at h1
  by_cases hz1 : 1 ≤ z
  · by_cases hz2 : z ≤ 27
    · obtain ⟨k, rfl⟩ : ∃ k : Nat, z = (k : Int) + 1 := ⟨(z - 1).toNat, by omega⟩
      have hk : k < 27 := by omega
      have hx : commandWords[k]? = some (commandWords.getD k ⟨#[]⟩) := by
        rw [List.getD_eq_getElem?_getD, List.getElem?_eq_getElem (by rw [e27]; exact hk)]
        rfl
      obtain ⟨u, hu⟩ : ∃ u, commandWords.getD k ⟨#[]⟩ = u := ⟨_, rfl⟩
      rw [hu] at hx
      have hcell := h3 k _ hx
      have hw1 : wrap64 ((k : Int) + 1 - 1) = (k : Int) := by rw [wrap64]; omega
      have hres : Hid (wordN ((k : Int) + 1) = u) := by
        unfold Hid wordN
        rw [if_pos ⟨by omega, by omega⟩, ← hu]
        congr 1
      have d1 : decide ((k : Int) + 1 < 1) = false := decide_eq_false (by omega)
      have d2 : decide ((27 : Int) < (k : Int) + 1) = false := decide_eq_false (by omega)
      have q0 : (0 : Int) ≤ (k : Int) := by omega
      have q1 : (k : Int) < 27 := by omega
      clear h3 h0 hx hz1 hz2 hu
      go_enter Tryd.func16, Tryd.ntmps16
      go_wp2_with fail
      go_ret
      exact ⟨by rw [hres.out]; rfl, Below.refl _ _⟩
    · have hres : Hid (wordN z = ⟨#[]⟩) := by unfold Hid wordN; rw [if_neg (by omega)]
      have d1 : decide (z < 1) = false := decide_eq_false (by omega)
      have d2 : decide ((27 : Int) < z) = true := decide_eq_true (by omega)
      clear h3
      go_enter Tryd.func16, Tryd.ntmps16
      go_wp2_with fail
      go_ret
      exact ⟨by rw [hres.out]; rfl, Below.refl _ _⟩
  · have hres : Hid (wordN z = ⟨#[]⟩) := by unfold Hid wordN; rw [if_neg (by omega)]
    have d1 : decide (z < 1) = true := decide_eq_true (by omega)
    clear h3
    go_enter Tryd.func16, Tryd.ntmps16
    go_wp2_with fail
    go_ret
    exact ⟨by rw [hres.out]; rfl, Below.refl _ _⟩
theorem TabS.drew {w : World} {G : Nat} {zs : List ByteArray} (h : TabS w G zs) : TabS w.drew G zs := h
theorem quorumC_any (T : Tok) (w : World) (hC : TabS w 2 commandWords) : Calls Tryd.prog 81 #[tokAgg T] w fun e w' => e = .returned (.bool (isCommand T)) ∧ Below w.heap.size w w' := by
  unfold tokAgg
  have hCM := Lib.hid (fun wx (h : Below w.heap.size w wx) => Command_any T.text wx (hC.below h))
  have hk : Hid (decide ((0 : Int) < (commandN T.text : Int)) = isCommand T) := by
    unfold Hid isCommand
    rw [decide_eq_decide]
    omega
  go_enter Tryd.func81, Tryd.ntmps81
  go_wp2_with (go_at_call 18; refine (hCM.out _ ((Below.refl _ _).alloc (Nat.le_refl _) _)).mono ?_; rintro e w' ⟨rfl, rfl⟩)
  go_ret
  exact ⟨rfl, (Below.refl _ _).alloc (Nat.le_refl _) _⟩
set_option maxRecDepth 100000 in
set_option maxHeartbeats 4000000 in
theorem take_command (w : World) (g B n : Nat) (tv c2 c3 c4 c5 c6 c7 : Value) (l : List Tok)
    (hb : Blk w g 61 #[tv, .int .i64 n, c2, c3, c4, c5, c6, c7]) (hC : TabS w 2 commandWords) (hT : TkAt w B tv l) (hg : B ≤ g) (hn : n ≤ l.length) (hl : l.length ≤ 1048576) :
    Calls Tryd.prog 80 #[.pointer (some ⟨g, 0, none⟩), .func (.func 81) #[] #[]] w (TakePost w g #[tv, .int .i64 n, c2, c3, c4, c5, c6, c7] l n isCommand tokAgg) := by
  have e0 : w.cell? ⟨g, 0, none⟩ = some tv := hb.cell 0
  have e1 : w.cell? ⟨g, 1, none⟩ = some (.int .i64 n) := hb.cell 1
  have hgl := hb.lt
  obtain ⟨A, c, rfl, hT'⟩ := id hT
  clear hT'
  by_cases hlt : n < l.length
  · obtain ⟨T, hTn⟩ : ∃ T, l[n]? = some T := ⟨_, List.getElem?_eq_getElem hlt⟩
    obtain ⟨b, o, rfl, hbB, k0, k1, k2, k3⟩ := hT.at_ n T hTn
    have hne : g ≠ w.heap.size := Nat.ne_of_lt hgl
    have d1 : ((n : Int) == (l.length : Int)) = false := beq_eq_false_iff_ne.2 (by omega)
    have d2 : decide ((n : Int) < (l.length : Int)) = true := decide_eq_true (by omega)
    have HB := Lib.hid hb
    have hnl : n + 1 ≤ l.length := hlt
    have hTnH := Lib.hid hTn
    clear hb hTn hT
    have hCH := Lib.hid hC
    clear hC
    go_enter Tryd.func80, Tryd.ntmps80
    go_wp2_with fail
    refine world_is (P := fun W => Code.wp _ _ _ _ W) (fun W0 hW0 => ?_)
    have hB0 : Below w.heap.size w W0 := by rw [← hW0]; exact (Below.refl _ _).alloc (Nat.le_refl _) _
    have hR0 : Blk W0 w.heap.size 47 #[.int .i64 0, .string ⟨#[]⟩, .int .i64 0, .int .i64 0] := by rw [← hW0]; exact Blk.new _ _ _
    have hP0 : Blk W0 g 61 #[.slice (some ⟨b, o, none⟩) l.length c, .int .i64 n, c2, c3, c4, c5, c6, c7] := by rw [← hW0]; exact HB.out.alloc _
    have hbW : b < w.heap.size := Nat.lt_of_lt_of_le hbB (Nat.le_trans hg (Nat.le_of_lt hgl))
    have HB0 := Lib.hid hB0
    have hR0s := hR0.lt
    have HR0 := Lib.hid hR0
    have HP0 := Lib.hid hP0
    have y0 := (hB0.cell (p := ⟨g, 0, none⟩) hgl).trans e0
    have y1 := (hB0.cell (p := ⟨g, 1, none⟩) hgl).trans e1
    have z0 := (hB0.cell (p := ⟨b, o + n * 4, none⟩) hbW).trans k0
    have z1 := (hB0.cell (p := ⟨b, o + n * 4 + 1, none⟩) hbW).trans k1
    have z2 := (hB0.cell (p := ⟨b, o + n * 4 + 2, none⟩) hbW).trans k2
    have z3 := (hB0.cell (p := ⟨b, o + n * 4 + 3, none⟩) hbW).trans k3
    have hgl0 : g < W0.heap.size := Nat.lt_of_lt_of_le hgl hB0.size
    have hbW0 : b < W0.heap.size := Nat.lt_of_lt_of_le hbW hB0.size
    have hC0 := Lib.hid (hCH.out.below HB0.out)
    clear hW0 hR0 hP0 hB0 e0 e1 k0 k1 k2 k3
    go_region_held3 (fun w' => w'.cell? ⟨g, 0, none⟩ = some (.slice (some ⟨b, o, none⟩) l.length c) ∧ w'.cell? ⟨g, 1, none⟩ = some (.int .i64 n) ∧ w'.cell? ⟨b, o + n * 4, none⟩ = some (.int .i64 T.kind) ∧ w'.cell? ⟨b, o + n * 4 + 1, none⟩ = some (.string T.text) ∧ w'.cell? ⟨b, o + n * 4 + 2, none⟩ = some (.int .i64 T.n) ∧ w'.cell? ⟨b, o + n * 4 + 3, none⟩ = some (.int .i64 T.pos)) (go_keep)
      (first | (go_at_call 81; refine (quorumC_any _ _ hC0.out.drew).mono ?_; rintro e w1 ⟨rfl, hB1⟩; have x0 := (hB1.cell (p := ⟨g, 0, none⟩) hgl0).trans y0; have x1 := (hB1.cell (p := ⟨g, 1, none⟩) hgl0).trans y1; have x2 := (hB1.cell (p := ⟨b, o + n * 4, none⟩) hbW0).trans z0; have x3 := (hB1.cell (p := ⟨b, o + n * 4 + 1, none⟩) hbW0).trans z1; have x4 := (hB1.cell (p := ⟨b, o + n * 4 + 2, none⟩) hbW0).trans z2; have x5 := (hB1.cell (p := ⟨b, o + n * 4 + 3, none⟩) hbW0).trans z3))
    have hB1' : Below W0.heap.size W0 w1 := ⟨hB1.os, hB1.tape, hB1.output, hB1.size, hB1.block⟩
    have HP1 := Lib.hid (HP0.out.below hB1' hgl0)
    have HR1 := Lib.hid (HR0.out.below hB1' hR0s)
    have HB2 := Lib.hid (HB0.out.trans (hB1'.mono HB0.out.size))
    clear hB1 hB1' HP0 HR0 y0 y1 z0 z1 z2 z3
    cases hp : isCommand T
    case true =>
      have hf1 : w1.frozen? ⟨g, 1, none⟩ = false := HP1.out.frozen 1
      go_upto_region 4 with fail
      obtain ⟨m, hm⟩ : ∃ m, n + 1 = m := ⟨_, rfl⟩
      rw [show (n : Int) + 1 = (m : Int) from by rw [← hm]; rfl]
      refine world_is (P := fun W => Code.wp _ _ _ _ W) (fun W2 hW2 => ?_)
      have hP2 : Blk W2 g 61 #[.slice (some ⟨b, o, none⟩) l.length c, .int .i64 (m : Int), c2, c3, c4, c5, c6, c7] := by rw [← hW2]; exact HP1.out.set_ 1 _
      have hR2 : Blk W2 w.heap.size 47 #[.int .i64 0, .string ⟨#[]⟩, .int .i64 0, .int .i64 0] := by rw [← hW2]; exact HR1.out.other (a := ⟨g, 1, none⟩) (Ne.symm hne) _
      have hG2 : w.grownBy W2 (some g) := by rw [← hW2]; exact grown_trans (grown_ofBelow HB2.out _) (grown_ofSet _ _ _ _)
      have hBw : Below B w1 W2 := by rw [← hW2]; exact (Below.refl _ _).setCell (p := ⟨g, 1, none⟩) hg _
      have y0 : W2.cell? ⟨g, 0, none⟩ = some (.slice (some ⟨b, o, none⟩) l.length c) := hP2.cell 0
      have y1 : W2.cell? ⟨g, 1, none⟩ = some (.int .i64 (m : Int)) := hP2.cell 1
      have z0 : W2.cell? ⟨b, o + n * 4, none⟩ = some (.int .i64 T.kind) := (hBw.cell (p := ⟨b, _, none⟩) hbB).trans x2
      have z1 : W2.cell? ⟨b, o + n * 4 + 1, none⟩ = some (.string T.text) := (hBw.cell (p := ⟨b, _, none⟩) hbB).trans x3
      have z2 : W2.cell? ⟨b, o + n * 4 + 2, none⟩ = some (.int .i64 T.n) := (hBw.cell (p := ⟨b, _, none⟩) hbB).trans x4
      have z3 : W2.cell? ⟨b, o + n * 4 + 3, none⟩ = some (.int .i64 T.pos) := (hBw.cell (p := ⟨b, _, none⟩) hbB).trans x5
      have r0 : W2.cell? ⟨w.heap.size, 0, none⟩ = some (.int .i64 0) := hR2.cell 0
      have r1 : W2.cell? ⟨w.heap.size, 1, none⟩ = some (.string ⟨#[]⟩) := hR2.cell 1
      have r2 : W2.cell? ⟨w.heap.size, 2, none⟩ = some (.int .i64 0) := hR2.cell 2
      have r3 : W2.cell? ⟨w.heap.size, 3, none⟩ = some (.int .i64 0) := hR2.cell 3
      have f0 := hR2.frozen 0
      have f1 := hR2.frozen 1
      have f2 := hR2.frozen 2
      have f3 := hR2.frozen 3
      have hw2 : wrap64 ((m : Int) - 1) = (n : Int) := by rw [wrap64]; omega
      have hw3 : IntKind.i64.wrap ((m : Int) - 1) = (n : Int) := by rw [IntKind.wrap_i64]; omega
      have hmH := Lib.hid hm
      clear hm
      have hne2 : b ≠ w.heap.size := Nat.ne_of_lt hbW
      have hne3 : w.heap.size ≠ g := Ne.symm hne
      have hne4 : w.heap.size ≠ b := Ne.symm hne2
      have q0 : (0 : Int) ≤ (n : Int) := by omega
      have q1 : (n : Int) < (l.length : Int) := by omega
      have HP2 := Lib.hid hP2
      have HR2 := Lib.hid hR2
      have HG2 := Lib.hid hG2
      clear hW2 hP2 hR2 hG2 x0 x1 x2 x3 x4 x5 hf1 HP1 HR1 HB2 hBw
      go_region_held3 (fun w' => w'.cell? ⟨g, 0, none⟩ = some (.slice (some ⟨b, o, none⟩) l.length c) ∧ w'.cell? ⟨g, 1, none⟩ = some (.int .i64 (m : Int)) ∧ w'.cell? ⟨b, o + n * 4, none⟩ = some (.int .i64 T.kind) ∧ w'.cell? ⟨b, o + n * 4 + 1, none⟩ = some (.string T.text) ∧ w'.cell? ⟨b, o + n * 4 + 2, none⟩ = some (.int .i64 T.n) ∧ w'.cell? ⟨b, o + n * 4 + 3, none⟩ = some (.int .i64 T.pos)) (go_keep) (fail)
      refine world_is (P := fun W => Exit.then _ _ Exit.normal _ W) (fun W3 hW3 => ?_)
      have hR3 : Blk W3 w.heap.size 47 #[.int .i64 T.kind, .string T.text, .int .i64 T.n, .int .i64 T.pos] := by rw [← hW3]; exact ((((HR2.out.set_ 0 _).set_ 1 _).set_ 2 _).set_ 3 _).drew
      have hP3 : Blk W3 g 61 #[.slice (some ⟨b, o, none⟩) l.length c, .int .i64 (m : Int), c2, c3, c4, c5, c6, c7] := by
        rw [← hW3]
        exact ((((HP2.out.other (a := ⟨w.heap.size, 0, none⟩) hne _).other (a := ⟨w.heap.size, 1, none⟩) hne _).other (a := ⟨w.heap.size, 2, none⟩) hne _).other (a := ⟨w.heap.size, 3, none⟩) hne _).drew
      have hG3 : w.grownBy W3 (some g) := by
        rw [← hW3]
        have h0 := HG2.out
        refine ⟨h0.os, h0.tape, h0.output, by have := h0.size; simpa [World.setCell] using this, fun k hk hkr => ?_⟩
        have hkn : k ≠ w.heap.size := Nat.ne_of_lt hk
        refine (((Below.heap_setCell _ _ _ _ hkn).trans (Below.heap_setCell _ _ _ _ hkn)).trans ((Below.heap_setCell _ _ _ _ hkn).trans (Below.heap_setCell _ _ _ _ hkn))).trans (h0.block k hk hkr)
      clear hW3
      go_wp2_with fail
      refine bodyPost_ret (results_c (P := Tryd.prog) rfl _ _ w.heap.size 47 _ _ rfl hR3 Tryd.underlying47 rfl (by kernel_rfl)) rfl (.inl ⟨T, hTnH.out, hp, rfl, ?_, hG3⟩)
      have hm := hmH.out
      subst hm
      exact hP3
    case false =>
      go_wp2_with fail
      refine ⟨rfl, .inr ⟨fun t ht => ?_, rfl, HP1.out, grown_ofBelow HB2.out _⟩⟩
      rw [hTnH.out] at ht
      cases ht
      exact hp
  · have hnl : n = l.length := Nat.le_antisymm hn (Nat.le_of_not_lt hlt)
    have hnone : ∀ t, l[n]? = some t → isCommand t = false := fun t ht => absurd (List.getElem?_eq_some_iff.1 ht).1 hlt
    have d1 : ((n : Int) == (l.length : Int)) = true := beq_iff_eq.2 (by omega)
    have HB := Lib.hid hb
    have hno := Lib.hid hnone
    clear hb hT hnl hlt hnone
    go_enter Tryd.func80, Tryd.ntmps80
    go_wp2_with fail
    refine world_is (P := fun W => Code.wp _ _ _ _ W) (fun W0 hW0 => ?_)
    have hB0 : Below w.heap.size w W0 := by rw [← hW0]; exact (Below.refl _ _).alloc (Nat.le_refl _) _
    have hP0 : Blk W0 g 61 #[.slice A l.length c, .int .i64 n, c2, c3, c4, c5, c6, c7] := by rw [← hW0]; exact HB.out.alloc _
    have HB0 := Lib.hid hB0
    have HP0 := Lib.hid hP0
    have y0 := (hB0.cell (p := ⟨g, 0, none⟩) hgl).trans e0
    have y1 := (hB0.cell (p := ⟨g, 1, none⟩) hgl).trans e1
    clear hW0 hP0 hB0 e0 e1
    go_quiet (fail)
    go_wp2_with fail
    exact ⟨rfl, .inr ⟨hno.out, rfl, HP0.out.drewN _, grown_trans (grown_ofBelow HB0.out _) ⟨rfl, rfl, rfl, Nat.le_refl _, fun _ _ _ => rfl⟩⟩⟩
/-- What stands in the parser's block: eight cells, the second its place. -/
def PBlk (w : World) (g n : Nat) (tv c2 c3 c4 c5 c6 c7 : Value) : Prop := Blk w g 61 #[tv, .int .i64 n, c2, c3, c4, c5, c6, c7]
theorem tok_n (k : Int) (s : ByteArray) (n p : Int) (wx : World) : (Instr.field 47 (.agg #[.int .i64 k, .string s, .int .i64 n, .int .i64 p]) 2).run Tryd.prog wx = .ok (.int .i64 n) wx := by kernel_rfl
theorem tok_text (k : Int) (s : ByteArray) (n p : Int) (wx : World) : (Instr.field 47 (.agg #[.int .i64 k, .string s, .int .i64 n, .int .i64 p]) 1).run Tryd.prog wx = .ok (.string s) wx := by kernel_rfl
section
variable {w : World} {g B n : Nat} {tv c2 c3 c4 c5 c6 c7 : Value} {l : List Tok}
set_option maxRecDepth 100000 in
set_option maxHeartbeats 4000000 in
theorem name_any (hb : Blk w g 61 #[tv, .int .i64 n, c2, c3, c4, c5, c6, c7]) (hT : TkAt w B tv l) (hg : B ≤ g) (hn : n ≤ l.length) (hl : l.length ≤ 1048576) :
    Calls Tryd.prog 57 #[.pointer (some ⟨g, 0, none⟩)] w (TakePost w g #[tv, .int .i64 n, c2, c3, c4, c5, c6, c7] l n isWordT tokAgg) := by
  have hgl := hb.lt
  have hBg : B ≤ w.heap.size := Nat.le_trans hg (Nat.le_of_lt hgl)
  have hne : g ≠ w.heap.size := Nat.ne_of_lt hgl
  have hTK := Lib.hid (take_name (w.alloc (.cells #[.int .i64 0, .string ⟨#[]⟩, .int .i64 0, .int .i64 0] 47)) g B n tv c2 c3 c4 c5 c6 c7 l (hb.alloc _) (hT.below ((Below.refl B w).alloc hBg _)) hg hn hl)
  clear hb hT
  go_enter Tryd.func57, Tryd.ntmps57
  go_wp2_with fail
  refine hTK.out.mono ?_
  rintro e w1 (⟨t, ht, hp, rfl, hP, hG⟩ | ⟨hno, rfl, hP, hG⟩)
  · unfold tokAgg
    have hR1 : Blk w1 w.heap.size 47 #[.int .i64 0, .string ⟨#[]⟩, .int .i64 0, .int .i64 0] := (Blk.new w _ _).grown hG (fun e => hne (by cases e; rfl))
    have r0 : w1.cell? ⟨w.heap.size, 0, none⟩ = some (.int .i64 0) := hR1.cell 0
    have r1 : w1.cell? ⟨w.heap.size, 1, none⟩ = some (.string ⟨#[]⟩) := hR1.cell 1
    have r2 : w1.cell? ⟨w.heap.size, 2, none⟩ = some (.int .i64 0) := hR1.cell 2
    have r3 : w1.cell? ⟨w.heap.size, 3, none⟩ = some (.int .i64 0) := hR1.cell 3
    have f0 := hR1.frozen 0
    have f1 := hR1.frozen 1
    have f2 := hR1.frozen 2
    have f3 := hR1.frozen 3
    have HR1 := Lib.hid hR1
    have HP := Lib.hid hP
    have HG := Lib.hid hG
    have hpH := Lib.hid hp
    clear hR1 hP hG hp
    go_wp2_with fail
    refine bodyPost_ret (results_c (P := Tryd.prog) rfl _ _ w.heap.size 47 #[.int .i64 t.kind, .string t.text, .int .i64 t.n, .int .i64 t.pos] _ rfl ((((HR1.out.set_ 0 _).set_ 1 _).set_ 2 _).set_ 3 _) Tryd.underlying47 rfl (by kernel_rfl)) rfl (.inl ⟨t, ht, hpH.out, rfl, ?_, ?_⟩)
    · exact (((HP.out.other (a := ⟨w.heap.size, 0, none⟩) hne _).other (a := ⟨w.heap.size, 1, none⟩) hne _).other (a := ⟨w.heap.size, 2, none⟩) hne _).other (a := ⟨w.heap.size, 3, none⟩) hne _
    · have h0 := grown_trans (grown_ofBelow ((Below.refl _ w).alloc (Nat.le_refl _) (.cells #[.int .i64 0, .string ⟨#[]⟩, .int .i64 0, .int .i64 0] 47)) (some g)) HG.out
      refine ⟨h0.os, h0.tape, h0.output, by have := h0.size; simpa [World.setCell] using this, fun k hk hkr => ?_⟩
      have hkn : k ≠ w.heap.size := Nat.ne_of_lt hk
      refine (((Below.heap_setCell _ _ _ _ hkn).trans (Below.heap_setCell _ _ _ _ hkn)).trans ((Below.heap_setCell _ _ _ _ hkn).trans (Below.heap_setCell _ _ _ _ hkn))).trans (h0.block k hk hkr)
  · go_wp2_with fail
    exact ⟨rfl, .inr ⟨hno, rfl, hP, grown_trans (grown_ofBelow ((Below.refl _ w).alloc (Nat.le_refl _) _) _) hG⟩⟩
set_option maxRecDepth 100000 in
set_option maxHeartbeats 4000000 in
theorem number_any' (hb : Blk w g 61 #[tv, .int .i64 n, c2, c3, c4, c5, c6, c7]) (hT : TkAt w B tv l) (hg : B ≤ g) (hn : n ≤ l.length) (hl : l.length ≤ 1048576) :
    Calls Tryd.prog 79 #[.pointer (some ⟨g, 0, none⟩)] w (TakePost w g #[tv, .int .i64 n, c2, c3, c4, c5, c6, c7] l n isNumT fun t => .int .i64 t.n) := by
  have hTK := Lib.hid (take_number w g B n tv c2 c3 c4 c5 c6 c7 l hb hT hg hn hl)
  clear hb hT
  go_enter Tryd.func79, Tryd.ntmps79
  go_wp2_with fail
  refine hTK.out.mono ?_
  rintro e w1 (⟨t, ht, hp, rfl, hP, hG⟩ | ⟨hno, rfl, hP, hG⟩)
  · unfold tokAgg
    have hpH := Lib.hid hp
    clear hp
    have hfd := tok_n (t.kind : Int) t.text (t.n : Int) (t.pos : Int)
    go_wp2_with fail
    go_ret
    exact .inl ⟨t, ht, hpH.out, rfl, hP, hG⟩
  · go_wp2_with fail
    exact ⟨rfl, .inr ⟨hno, rfl, hP, hG⟩⟩
/-- What accept leaves: the token is passed over if it has the text. -/
def AccPost (w : World) (g : Nat) (cs : Array Value) (l : List Tok) (n : Nat) (s : ByteArray) (e : Ending) (w' : World) : Prop :=
  ∃ b, (b = true ↔ ∃ t, l[n]? = some t ∧ isText s t = true) ∧ e = .returned (.bool b) ∧ Blk w' g 61 (if b then cs.setIfInBounds 1 (.int .i64 ((n + 1 : Nat) : Int)) else cs) ∧ w.grownBy w' (some g)
set_option maxRecDepth 100000 in
set_option maxHeartbeats 4000000 in
theorem accept_any (s : ByteArray) (hs0 : ¬ s.data.toList = []) (hb : Blk w g 61 #[tv, .int .i64 n, c2, c3, c4, c5, c6, c7]) (hT : TkAt w B tv l) (hn : n ≤ l.length) (hl : l.length ≤ 1048576) :
    Calls Tryd.prog 58 #[.pointer (some ⟨g, 0, none⟩), .string s] w (AccPost w g #[tv, .int .i64 n, c2, c3, c4, c5, c6, c7] l n s) := by
  have hs : ¬ s.toList = (⟨#[]⟩ : ByteArray).toList := by rw [ByteArray.toList_eq, ByteArray.toList_eq]; exact hs0
  have hgl := hb.lt
  have hPK := Lib.hid (peek_any w g B n tv c2 c3 c4 c5 c6 c7 l hb hT hl)
  obtain ⟨u, hu⟩ : ∃ u, peek (l.drop n) = u := ⟨_, rfl⟩
  rw [hu] at hPK
  have HB := Lib.hid hb
  have hiff : Hid ((u.toList == s.toList) = true ↔ ∃ t, l[n]? = some t ∧ isText s t = true) := by
    unfold Hid
    by_cases hlt : n < l.length
    · have hTn := List.getElem?_eq_getElem hlt
      rw [← hu, peek_at hTn]
      exact ⟨fun h => ⟨_, hTn, h⟩, fun ⟨t, ht, h⟩ => by rw [hTn] at ht; cases ht; exact h⟩
    · rw [← hu, peek_end (Nat.le_of_not_lt hlt)]
      refine ⟨fun h => ?_, fun ⟨t, ht, _⟩ => absurd (List.getElem?_eq_some_iff.1 ht).1 hlt⟩
      exact absurd (beq_iff_eq.1 h).symm hs
  have hsm : n ≤ 1048576 := Nat.le_trans hn hl
  clear hb hT hu
  go_enter Tryd.func58, Tryd.ntmps58
  go_wp2_with fail
  refine hPK.out.mono ?_
  rintro e w1 ⟨rfl, hB⟩
  have hP1 := HB.out.below hB hgl
  have c1 : w1.cell? ⟨g, 1, none⟩ = some (.int .i64 n) := hP1.cell 1
  have f1 := hP1.frozen 1
  have HP1 := Lib.hid hP1
  have HB1 := Lib.hid hB
  clear hP1 hB
  cases hcmp : (u.toList == s.toList)
  case true =>
    have hi := Lib.hid (hiff.out.1 hcmp)
    go_wp2_with fail
    go_ret
    exact ⟨true, ⟨fun _ => hi.out, fun _ => rfl⟩, rfl, HP1.out.set_ 1 _, grown_trans (grown_ofBelow HB1.out _) (grown_ofSet _ _ _ _)⟩
  case false =>
    have hi : Hid (¬ ∃ t, l[n]? = some t ∧ isText s t = true) := fun h => by rw [hiff.out.2 h] at hcmp; cases hcmp
    go_wp2_with fail
    go_ret
    exact ⟨false, ⟨fun h => (by cases h), fun h => absurd h hi.out⟩, rfl, HP1.out, grown_ofBelow HB1.out _⟩
end
end Go.Proofs.YtemhiiignamkjaaDoor
