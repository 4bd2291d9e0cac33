/-
  Layer 29 (session): codes, the opening, Greet.
  Layer 29 (session): the opening and Greet.
  A literal's bytes that are converted to bytes: the model marks their row.
  Layer 29 (session): what both ends start with.
-/
import Derived.Test.YtbhagfdkipgggaaDoorMH
import Derived.Test.YtbhagfdkipgggaaDoorMB
namespace Go.Proofs.YtbhagfdkipgggaaDoor
open Go.RowKit Go.Shelf
attribute [local go_sem] Oper.semAt_some
/-- A slice of bytes, and where they lie. -/
def SliceOf (w : World) (v : Value) (b : List UInt8) : Prop := ∃ g o c, v = .slice (some ⟨g, o, none⟩) b.length c ∧ BytesAt w g o b
theorem BRow.sliceOf {w : World} {base : Nat} {v : Value} {b : List UInt8} (h : BRow w base v b) (hb : b ≠ []) : SliceOf w v b := by
  obtain ⟨g, c, rfl, _, _⟩ := h.slice hb
  exact ⟨g, 0, c, rfl, h.bytesAt⟩
theorem SliceOf.below {w w' : World} {v : Value} {b : List UInt8} (h : SliceOf w v b) (hB : Below w.heap.size w w') : SliceOf w' v b := by
  obtain ⟨g, o, c, h1, h2⟩ := h
  exact ⟨g, o, c, h1, h2.below hB⟩
theorem rows1 (w : World) (v : Value) (b : List UInt8) (h : SliceOf w v b) : RowsAt (w.alloc (.cells #[v] 65)) w.heap.size [b] := by
  have hB := (Below.refl w.heap.size w).alloc (Nat.le_refl _) (.cells #[v] 65)
  refine ⟨by rw [World.size_alloc]; exact Nat.lt_succ_self _, fun i x hx => ?_⟩
  obtain ⟨g, o, c, rfl, h2⟩ := h.below hB
  match i, hx with
  | 0, hx => cases hx; exact ⟨g, o, c, (Blk.new w 65 _).cell 0, h2⟩
theorem rows2 (w : World) (v1 v2 : Value) (b1 b2 : List UInt8) (h1 : SliceOf w v1 b1) (h2 : SliceOf w v2 b2) : RowsAt (w.alloc (.cells #[v1, v2] 65)) w.heap.size [b1, b2] := by
  have hB := (Below.refl w.heap.size w).alloc (Nat.le_refl _) (.cells #[v1, v2] 65)
  refine ⟨by rw [World.size_alloc]; exact Nat.lt_succ_self _, fun i x hx => ?_⟩
  obtain ⟨g1, o1, c1, rfl, e1⟩ := h1.below hB
  obtain ⟨g2, o2, c2, rfl, e2⟩ := h2.below hB
  match i, hx with
  | 0, hx => cases hx; exact ⟨g1, o1, c1, (Blk.new w 65 _).cell 0, e1⟩
  | 1, hx => cases hx; exact ⟨g2, o2, c2, (Blk.new w 65 _).cell 1, e2⟩
theorem ssCode_any (w : World) (key : ByteArray) (g n c : Nat) (l : List (List UInt8)) (hn : l.length = n) (hn2 : n ≤ 1000) (h1 : 0 < l.flatten.length) (h2 : l.flatten.length ≤ 1000000) (hA : RowsAt w g l) (hkey : key.size < 10000000000) (hK : KAt w 1) :
    Calls Tryd.prog 61 #[.string key, .slice (some ⟨g, 0, none⟩) n c] w fun e w' => e = .returned (.string (txt (codeL (bl key) l.flatten))) ∧ Below w.heap.size w w' := by
  have HJ : Hid (Calls Tryd.prog 82 #[.slice (some ⟨g, 0, none⟩) n c] w fun e w' => ∃ v, e = .returned v ∧ (convert 65 9 v).run Tryd.prog w' = .ok (.string (txt l.flatten)) w' ∧ Below w.heap.size w w') := by
    refine (concat_any w g n c l hn hn2 h1 h2 hA).mono ?_
    rintro e w' ⟨v, rfl, hR, hB⟩
    exact ⟨v, rfl, conv_row hR, hB⟩
  have HM : Hid (∀ wx, Below w.heap.size w wx → Calls Tryd.prog 81 #[.string key, .string (txt l.flatten)] wx fun e w' => e = .returned (.string (txt (macL (bl key) l.flatten))) ∧ Below wx.heap.size wx w') := fun wx hB =>
    mac_any wx key (txt l.flatten) (hK.below hB) hkey (by rw [txt_size]; omega)
  have hms : Hid ((txt (macL (bl key) l.flatten)).size = 32) := by unfold Hid; rw [txt_size, macL_len]
  have hxt : Hid ((txt (macL (bl key) l.flatten)).extract 0 16 = txt (codeL (bl key) l.flatten)) := txt_head (macL (bl key) l.flatten) 16
  clear hA hK h1 h2
  generalize txt (macL (bl key) l.flatten) = M at *
  generalize txt l.flatten = T at *
  have n2 : (16 : Int) ≤ (M.size : Int) := by have := hms.out; omega
  go_enter Tryd.func61, Tryd.ntmps61
  go_wp2_with (first | (go_at_call 82; refine HJ.out.mono ?_; rintro e w1 ⟨v, rfl, hcv, hB1⟩; have HB1 := Lib.hid hB1; clear hB1) | (go_at_call 81; refine (HM.out _ HB1.out).mono ?_; rintro e w2 ⟨rfl, hB2⟩; have HB2 := Lib.hid (HB1.out.trans (hB2.mono HB1.out.size)); clear hB2) | fail)
  go_ret
  exact ⟨by rw [← hxt.out]; rfl, HB2.out⟩
theorem intsL_ne (l : List Nat) : intsL l ≠ [] := by
  unfold intsL
  intro h
  exact intL_ne _ (List.append_eq_nil_iff.1 h).1
theorem intsL_le (l : List Nat) : (intsL l).length ≤ 9 + 9 * l.length := by
  unfold intsL
  rw [List.length_append]
  have h1 := flat_len l
  have h2 := intL_le l.length
  omega
theorem nats1 (w : World) (x : Nat) : NatsAt (w.alloc (.cells #[.int .i64 (x : Int)] 3)) w.heap.size 0 [x] := by
  refine ⟨by rw [World.size_alloc]; exact Nat.lt_succ_self _, fun i y hy => ?_⟩
  match i, hy with
  | 0, hy => cases hy; exact (Blk.new w 3 _).cell 0
theorem hello_any (w : World) (s n : ByteArray) (role : Nat) (hr : role ≤ 3) (hs : s.size = 32) (hn : n.size = 16) (hK : KAt w 1) :
    Calls Tryd.prog 39 #[.string s, .int .i64 role, .string n] w fun e w' => e = .returned (.string (txt (helloL (bl s) role (bl n)))) ∧ Below w.heap.size w w' := by
  obtain ⟨K, hKe⟩ : ∃ K, txt (deriveL (bl s) sHello []) = K := ⟨_, rfl⟩
  have hKb : bl K = deriveL (bl s) sHello [] := by rw [← hKe]; rfl
  have hKs : K.size = 32 := by rw [← bl_len, hKb, deriveL_len]
  have HD : Hid (Calls Tryd.prog 62 #[.string s, .string ⟨#[104, 101, 108, 108, 111]⟩, .slice none 0 0] w fun e w' => e = .returned (.string K) ∧ Below w.heap.size w w') := by
    have h := derive_any w s ⟨#[104, 101, 108, 108, 111]⟩ none 0 0 [] rfl (by decide) (by intro x hx; cases hx) (.inl rfl) hK (by omega) (by decide)
    rw [← hKe]
    exact h
  have HI : Hid (∀ wx, Calls Tryd.prog 63 #[.slice (some ⟨wx.heap.size, 0, none⟩) 1 1] (wx.alloc (.cells #[.int .i64 (role : Int)] 3)) fun e w' => ∃ v, e = .returned v ∧ SliceOf w' v (intsL [role]) ∧ Below wx.heap.size wx w') := fun wx => by
    have hB := (Below.refl wx.heap.size wx).alloc (Nat.le_refl _) (.cells #[.int .i64 (role : Int)] 3)
    refine (ints_any _ wx.heap.size 0 1 1 [role] rfl (by decide) (by intro x hx; simp at hx; omega) (nats1 wx role)).mono ?_
    rintro e w' ⟨v, rfl, hR, hB2⟩
    exact ⟨v, rfl, hR.sliceOf (intsL_ne _), hB.trans (hB2.mono hB.size)⟩
  have HY : Hid (∀ wx, Calls Tryd.prog 64 #[.string n] wx fun e w' => ∃ v, e = .returned v ∧ SliceOf w' v (bytesL (bl n)) ∧ Below wx.heap.size wx w') := fun wx => by
    refine (bytes_any wx n (by omega)).mono ?_
    rintro e w' ⟨v, rfl, hR, hB⟩
    exact ⟨v, rfl, hR.sliceOf (bytesL_ne _), hB⟩
  have HC : Hid (∀ wx v1 v2, Below w.heap.size w wx → SliceOf wx v1 (intsL [role]) → SliceOf wx v2 (bytesL (bl n)) → Calls Tryd.prog 61 #[.string K, .slice (some ⟨wx.heap.size, 0, none⟩) 2 2] (wx.alloc (.cells #[v1, v2] 65)) fun e w' => e = .returned (.string (txt (helloL (bl s) role (bl n)))) ∧ Below wx.heap.size wx w') := fun wx v1 v2 hBx h1 h2 => by
    have hB := (Below.refl wx.heap.size wx).alloc (Nat.le_refl _) (.cells #[v1, v2] 65)
    have l1 := intsL_le [role]
    have l2 := bytesL_le (bl n)
    have l3 : 0 < (intsL [role]).length := List.length_pos_iff.2 (intsL_ne _)
    rw [bl_len] at l2
    have hf : [intsL [role], bytesL (bl n)].flatten = intsL [role] ++ bytesL (bl n) := by simp
    have h := ssCode_any (wx.alloc (.cells #[v1, v2] 65)) K wx.heap.size 2 2 [intsL [role], bytesL (bl n)] rfl (by decide) (by rw [hf, List.length_append]; omega) (by rw [hf, List.length_append]; simp at l1; omega) (rows2 wx v1 v2 _ _ h1 h2) (by omega) ((hK.below hBx).below hB)
    rw [hf, hKb] at h
    refine h.mono ?_
    rintro e w' ⟨he, hB2⟩
    exact ⟨he, hB.trans (hB2.mono hB.size)⟩
  clear hKe hKb hKs hK
  go_enter Tryd.func39, Tryd.ntmps39
  go_wp2_with (first
    | (go_at_call 62; refine HD.out.mono ?_; rintro e w1 ⟨rfl, hB⟩; have HB1 := Lib.hid hB; clear hB)
    | (go_at_call 63; refine (HI.out w1).mono ?_; rintro e w2 ⟨v1, rfl, hS, hB⟩; obtain ⟨g1, o1, c1, rfl, hb1⟩ := hS; have HS1 : Hid (SliceOf w2 (.slice (some ⟨g1, o1, none⟩) (intsL [role]).length c1) (intsL [role])) := ⟨g1, o1, c1, rfl, hb1⟩; have HB2 := Lib.hid (HB1.out.trans (hB.mono HB1.out.size)); clear hB hb1)
    | (go_at_call 64; refine (HY.out w2).mono ?_; rintro e w3 ⟨v2, rfl, hS, hB⟩; obtain ⟨g2, o2, c2, rfl, hb2⟩ := hS; have HS2 : Hid (SliceOf w3 (.slice (some ⟨g2, o2, none⟩) (bytesL (bl n)).length c2) (bytesL (bl n))) := ⟨g2, o2, c2, rfl, hb2⟩; have HS1b := Lib.hid (HS1.out.below hB); have HB3 := Lib.hid (HB2.out.trans (hB.mono HB2.out.size)); clear hB hb2)
    | (go_at_call 61; refine (HC.out w3 _ _ HB3.out HS1b.out HS2.out).mono ?_; rintro e w4 ⟨rfl, hB⟩; have HB4 := Lib.hid (HB3.out.trans (hB.mono HB3.out.size)); clear hB)
    | fail)
  go_ret
  exact ⟨rfl, HB4.out⟩
end Go.Proofs.YtbhagfdkipgggaaDoor
namespace Go.Proofs.YtbhagfdkipgggaaDoor
open Go.RowKit Go.Shelf
attribute [local go_sem] Oper.semAt_some
theorem opening_any (w : World) (s n : ByteArray) (role : Int) :
    Calls Tryd.prog 38 #[.string s, .int .i64 role, .string n] w fun e w' => e = .returned (.int .i64 (if Opens s role n then 0 else 1)) ∧ w = w' := by
  by_cases h1 : s.size = 32
  · have e1 : ((s.size : Int) != 32) = false := by rw [h1]; rfl
    by_cases h2 : role < 1
    · have e2 : decide (role < 1) = true := decide_eq_true h2
      have hO : ¬ Opens s role n := fun h => by have := h.2.1; omega
      rw [if_neg hO]
      clear hO
      go_enter Tryd.func38, Tryd.ntmps38
      go_wp2_with fail
      go_ret
      exact ⟨rfl, rfl⟩
    · have e2 : decide (role < 1) = false := decide_eq_false h2
      by_cases h3 : 3 < role
      · have e3 : decide (3 < role) = true := decide_eq_true h3
        have hO : ¬ Opens s role n := fun h => by have := h.2.2.1; omega
        rw [if_neg hO]
        clear hO
        go_enter Tryd.func38, Tryd.ntmps38
        go_wp2_with fail
        go_ret
        exact ⟨rfl, rfl⟩
      · have e3 : decide (3 < role) = false := decide_eq_false h3
        by_cases h4 : n.size = 16
        · have e4 : ((n.size : Int) != 16) = false := by rw [h4]; rfl
          have hO : Opens s role n := ⟨h1, by omega, by omega, h4⟩
          rw [if_pos hO]
          clear hO h4 h1
          go_enter Tryd.func38, Tryd.ntmps38
          go_wp2_with fail
          go_ret
          exact ⟨rfl, rfl⟩
        · have e4 : ((n.size : Int) != 16) = true := by rw [bne_iff_ne]; omega
          have hO : ¬ Opens s role n := fun h => h4 h.2.2.2
          rw [if_neg hO]
          clear hO h1
          go_enter Tryd.func38, Tryd.ntmps38
          go_wp2_with fail
          go_ret
          exact ⟨rfl, rfl⟩
  · have e1 : ((s.size : Int) != 32) = true := by rw [bne_iff_ne]; omega
    have hO : ¬ Opens s role n := fun h => h1 h.1
    rw [if_neg hO]
    clear hO
    go_enter Tryd.func38, Tryd.ntmps38
    go_wp2_with fail
    go_ret
    exact ⟨rfl, rfl⟩
theorem infoHel : (Tryd.prog.info? 23).map (·.size) = some 3 := by kernel_rfl
theorem greet_any (w : World) (s n : ByteArray) (role : Int) (hK : KAt w 1) :
    Calls Tryd.prog 11 #[.string s, .int .i64 role, .string n] w fun e w' => e = .returned (.tuple #[helV (greetP s role n).1, .int .i64 ((greetP s role n).2 : Nat)]) ∧ Below w.heap.size w w' := by
  have HO : Hid (∀ wx, Calls Tryd.prog 38 #[.string s, .int .i64 role, .string n] wx fun e w' => e = .returned (.int .i64 (if Opens s role n then 0 else 1)) ∧ wx = w') := fun wx => opening_any wx s n role
  by_cases hO : Opens s role n
  · obtain ⟨h1, h2, h3, h4⟩ := hO
    obtain ⟨r, rfl⟩ : ∃ r : Nat, role = (r : Int) := ⟨role.toNat, by omega⟩
    have hg : greetP s (r : Int) n = (⟨(r : Int), n, txt (helloL (bl s) r (bl n))⟩, 0) := by
      unfold greetP
      rw [if_pos ⟨h1, h2, h3, h4⟩]
      rfl
    rw [hg]
    have HH : Hid (∀ wx, Below w.heap.size w wx → Calls Tryd.prog 39 #[.string s, .int .i64 r, .string n] wx fun e w' => e = .returned (.string (txt (helloL (bl s) r (bl n)))) ∧ Below wx.heap.size wx w') := fun wx hB => hello_any wx s n r (by omega) h1 h4 (hK.below hB)
    have HO2 : Hid (∀ wx, Calls Tryd.prog 38 #[.string s, .int .i64 r, .string n] wx fun e w' => e = .returned (.int .i64 0) ∧ wx = w') := fun wx => by
      have h := HO.out wx
      rw [if_pos ⟨h1, h2, h3, h4⟩] at h
      exact h
    clear HO hg hK
    generalize txt (helloL (bl s) r (bl n)) = T at *
    go_enter Tryd.func11, Tryd.ntmps11
    go_wp2_with (first
      | (go_at_call 38; refine (HO2.out _).mono ?_; rintro e w1 ⟨rfl, rfl⟩)
      | (go_at_call 39; refine (HH.out _ ((Below.refl w.heap.size w).alloc (Nat.le_refl _) _)).mono ?_; rintro e w2 ⟨rfl, hB⟩; have hb2 := (Blk.new w 23 #[.int .i64 0, .string ⟨#[]⟩, .string ⟨#[]⟩]).below hB (by rw [World.size_alloc]; exact Nat.lt_succ_self _); have f0 := hb2.frozen 0; have f1 := hb2.frozen 1; have f2 := hb2.frozen 2; have z0 := hb2.cell 0; have z1 := hb2.cell 1; have z2 := hb2.cell 2; have hb2H := Lib.hid hb2; have HB2 := Lib.hid (((Below.refl w.heap.size w).alloc (Nat.le_refl _) _).trans (hB.mono (by rw [World.size_alloc]; exact Nat.le_succ _))); clear hb2 hB)
      | fail)
    have hL := ((hb2H.out.set_ 0 (.int .i64 (r : Int))).set_ 1 (.string n)).set_ 2 (.string T)
    have hBL := ((HB2.out.setCell (p := ⟨w.heap.size, 0, none⟩) (Nat.le_refl _) (.int .i64 (r : Int))).setCell (p := ⟨w.heap.size, 1, none⟩) (Nat.le_refl _) (.string n)).setCell (p := ⟨w.heap.size, 2, none⟩) (Nat.le_refl _) (.string T)
    exact bodyPost_ret (v := .tuple #[.agg #[.int .i64 (r : Int), .string n, .string T], .int .i64 0]) (results_ct (P := Tryd.prog) (p := 6) (q := 7) rfl _ _ w.heap.size 23 _ _ rfl hL Tryd.underlying23 rfl infoHel) rfl ⟨rfl, hBL⟩
  · have hg : greetP s role n = (noHel, 1) := by
      unfold greetP
      rw [if_neg hO]
    rw [hg]
    have HO2 : Hid (∀ wx, Calls Tryd.prog 38 #[.string s, .int .i64 role, .string n] wx fun e w' => e = .returned (.int .i64 1) ∧ wx = w') := fun wx => by
      have h := HO.out wx
      rw [if_neg hO] at h
      exact h
    clear HO hg hK hO
    go_enter Tryd.func11, Tryd.ntmps11
    go_wp2_with (first
      | (go_at_call 38; refine (HO2.out _).mono ?_; rintro e w1 ⟨rfl, rfl⟩)
      | fail)
    have hL := Blk.new w 23 #[.int .i64 0, .string ⟨#[]⟩, .string ⟨#[]⟩]
    have hBL := (Below.refl w.heap.size w).alloc (Nat.le_refl _) (.cells #[.int .i64 0, .string ⟨#[]⟩, .string ⟨#[]⟩] 23)
    exact bodyPost_ret (v := .tuple #[.agg #[.int .i64 0, .string ⟨#[]⟩, .string ⟨#[]⟩], .int .i64 1]) (results_ct (P := Tryd.prog) (p := 6) (q := 7) rfl _ _ w.heap.size 23 _ _ rfl hL Tryd.underlying23 rfl infoHel) rfl ⟨rfl, hBL⟩
end Go.Proofs.YtbhagfdkipgggaaDoor
namespace Go.Proofs.YtbhagfdkipgggaaDoor
open Go.RowKit Go.Shelf
/-- The world behind a literal row and its mark. -/
def markW (w : World) (cs : Array Value) : World := (w.alloc (.cells cs 5)).freeze ⟨w.heap.size, cs.size, none⟩ 1
theorem conv_lit (w : World) (cs : Array Value) (n c : Nat) : (convert 65 65 (.slice (some ⟨w.heap.size, 0, none⟩) n c)).run Tryd.prog (w.alloc (.cells cs 5)) = .ok (.slice (some ⟨w.heap.size, 0, none⟩) n c) (markW w cs) := by
  have hsh : (w.alloc (.cells cs 5)).shape? w.heap.size = some (5, cs.size) := by
    simp [World.shape?, World.alloc, -World.alloc_eq]
  simp [convert, run_underlying Tryd.underlying65, run_underlying Tryd.underlying5, markStringish, markW, hsh, Result.andThen]
theorem markW_below (w : World) (cs : Array Value) : Below w.heap.size w (markW w cs) :=
  Lib.below_freeze ((Below.refl _ w).alloc (Nat.le_refl _) _) (p := ⟨w.heap.size, _, none⟩) (Nat.le_refl _) 1
theorem markW_new (w : World) (cs : Array Value) : (markW w cs).heap[w.heap.size]? = some (.cells cs 5 (cs.size, cs.size + 1)) := by
  simp [markW, World.freeze, World.alloc, -World.alloc_eq]
  rw [Array.getElem_modify_self]
  simp
theorem markW_size (w : World) (cs : Array Value) : (markW w cs).heap.size = w.heap.size + 1 := by
  simp [markW, World.freeze, World.alloc, -World.alloc_eq]
theorem markW_bytes (w : World) (l : List UInt8) : BytesAt (markW w (l.map byteV).toArray) w.heap.size 0 l :=
  ⟨by rw [markW_size]; exact Nat.lt_succ_self _, fun i x hx => by
    simp [World.cell?, markW_new, hx]
    rfl⟩
end Go.Proofs.YtbhagfdkipgggaaDoor
namespace Go.Proofs.YtbhagfdkipgggaaDoor
open Go.RowKit Go.Shelf
attribute [local go_sem] Oper.semAt_some
theorem results_ctt {P : Program} {fn : Func} {p q r : Tmp} {ty : TypeId} (h : fn.results = #[.cell p ty, .tmp q, .tmp r]) (tmps : Array Value) (w : World) (g : Nat) (t : TypeId) (cs : Array Value) (d : TypeDesc)
    (hp : tmps.getD p undef = .pointer (some ⟨g, 0, none⟩)) (hg : Blk w g t cs)
    (hu : P.underlying ty = some d) (hd : (match d with | .struct _ | .array _ _ => true | _ => false) = true) (hi : (P.info? ty).map (·.size) = some cs.size) :
    (results fn tmps).run P w = .ok (.tuple #[.agg cs, tmps.getD q undef, tmps.getD r undef]) w := by
  have hp' : tmps[p]?.getD undef = .pointer (some ⟨g, 0, none⟩) := by simpa using hp
  unfold Blk at hg
  simp [results, h, hp', asAddr, run_loadVar_row w g t ty cs (0, 0) d hg hu hd hi]
theorem nats2 (w : World) (x y : Nat) : NatsAt (w.alloc (.cells #[.int .i64 (x : Int), .int .i64 (y : Int)] 3)) w.heap.size 0 [x, y] := by
  refine ⟨by rw [World.size_alloc]; exact Nat.lt_succ_self _, fun i z hz => ?_⟩
  match i, hz with
  | 0, hz => cases hz; exact (Blk.new w 3 _).cell 0
  | 1, hz => cases hz; exact (Blk.new w 3 _).cell 1
theorem blk7_same {w : World} {g : Nat} {t : TypeId} {x0 x1 x2 x3 x4 x5 x6 : Value} (h : Blk w g t #[x0, x1, x2, x3, x4, x5, x6]) : Blk (((((((w.setCell ⟨g, 0, none⟩ x0).setCell ⟨g, 1, none⟩ x1).setCell ⟨g, 2, none⟩ x2).setCell ⟨g, 3, none⟩ x3).setCell ⟨g, 4, none⟩ x4).setCell ⟨g, 5, none⟩ x5).setCell ⟨g, 6, none⟩ x6) g t #[x0, x1, x2, x3, x4, x5, x6] := by
  have h1 := h.set_ 0 x0
  have h2 := h1.set_ 1 x1
  have h3 := h2.set_ 2 x2
  have h4 := h3.set_ 3 x3
  have h5 := h4.set_ 4 x4
  have h6 := h5.set_ 5 x5
  have h7 := h6.set_ 6 x6
  simpa only [List.setIfInBounds_toArray, List.set_cons_zero, List.set_cons_succ] using h7
theorem infoSes : (Tryd.prog.info? 32).map (·.size) = some 7 := by kernel_rfl
def zSes : Array Value := #[.int .i64 0, .int .i64 0, .int .i64 0, .string ⟨#[]⟩, .int .i64 0, .int .i64 0, .int .u64 0]
set_option maxRecDepth 100000 in
set_option maxHeartbeats 3200000 in
theorem start_any (w : World) (s n : ByteArray) (h : Hel) (id side : Int) (hK : KAt w 1) :
    Calls Tryd.prog 42 #[.string s, helV h, .int .i64 id, .int .i64 side, .string n] w fun e w' => e = .returned (.tuple #[sesV (startP s h id side n).1, .string (startP s h id side n).2.1, .int .i64 ((startP s h id side n).2.2 : Nat)]) ∧ Below w.heap.size w w' := by
  have HO : Hid (∀ wx, Calls Tryd.prog 38 #[.string s, .int .i64 h.role, .string h.nonce] wx fun e w' => e = .returned (.int .i64 (if Opens s h.role h.nonce then 0 else 1)) ∧ wx = w') := fun wx => opening_any wx s h.nonce h.role
  by_cases hO : Opens s h.role h.nonce ∧ 1 ≤ id ∧ id ≤ 64 ∧ n.size = 16
  · obtain ⟨h0, h1, h2, h3⟩ := hO
    have HO2 : Hid (∀ wx, Calls Tryd.prog 38 #[.string s, .int .i64 h.role, .string h.nonce] wx fun e w' => e = .returned (.int .i64 0) ∧ wx = w') := fun wx => by
      have h1 := HO.out wx
      rw [if_pos h0] at h1
      exact h1
    have hP : startP s h id side n = (⟨id, h.role, side, txt (skeyL (bl s) h.role.toNat id.toNat h.nonce n), 0, 0, 0⟩, txt (welcomeL (skeyL (bl s) h.role.toNat id.toNat h.nonce n)), 0) := by unfold startP; rw [if_pos ⟨h0, h1, h2, h3⟩]
    rw [hP]
    unfold helV helC
    obtain ⟨role, nonce, tag⟩ := h
    try dsimp only at HO2 h0 ⊢
    obtain ⟨hs, r1, r2, hns⟩ := h0
    try dsimp only at r1 r2 hns
    obtain ⟨r, rfl⟩ : ∃ r : Nat, role = (r : Int) := ⟨role.toNat, by omega⟩
    obtain ⟨i, rfl⟩ : ∃ i : Nat, id = (i : Int) := ⟨id.toNat, by omega⟩
    have e3 : ((n.size : Int) != 16) = false := by rw [h3]; rfl
    rw [Int.toNat_natCast, Int.toNat_natCast] at hP ⊢
    clear HO hP
    go_enter Tryd.func42, Tryd.ntmps42
    go_upto_region 5 with (first | (go_at_call 38; refine (HO2.out _).mono ?_; rintro e w1 ⟨rfl, rfl⟩) | fail)
    refine world_is (P := fun W => Code.wp _ _ _ _ W) (fun W1 hW1 => ?_)
    have HHB : Hid (Blk W1 w.heap.size 23 #[.int .i64 (r : Int), .string nonce, .string tag]) := by unfold Hid; rw [← hW1]; exact (Blk.new w _ _).alloc _
    have HSB : Hid (Blk W1 (w.heap.size + 1) 32 #[.int .i64 (i : Int), .int .i64 (r : Int), .int .i64 side, .string ⟨#[]⟩, .int .i64 0, .int .i64 0, .int .u64 0]) := by unfold Hid; rw [← hW1]; exact blk_new2 _ _ _ _
    have HBel : Hid (Below w.heap.size w W1) := by unfold Hid; rw [← hW1]; exact ((Below.refl w.heap.size w).alloc (Nat.le_refl _) _).alloc (by rw [World.size_alloc]; exact Nat.le_succ _) _
    clear hW1
    have HKW := Lib.hid (hK.below HBel.out)
    have HS : Hid (∀ wx, Below W1.heap.size W1 wx → wx.cell? ⟨w.heap.size, 0, none⟩ = some (.int .i64 (r : Int)) ∧ wx.cell? ⟨w.heap.size, 1, none⟩ = some (.string nonce)) := fun wx hB => ⟨(HHB.out.below hB HHB.out.lt).cell 0, (HHB.out.below hB HHB.out.lt).cell 1⟩
    have HS2 : Hid (∀ wx v, Below W1.heap.size W1 wx → (wx.setCell ⟨w.heap.size + 1, 3, none⟩ v).cell? ⟨w.heap.size, 0, none⟩ = some (.int .i64 (r : Int)) ∧ (wx.setCell ⟨w.heap.size + 1, 3, none⟩ v).cell? ⟨w.heap.size, 1, none⟩ = some (.string nonce)) := fun wx v hB => by
      have h := (HHB.out.below hB HHB.out.lt).other (a := ⟨w.heap.size + 1, 3, none⟩) (by show w.heap.size ≠ w.heap.size + 1; omega) v
      exact ⟨h.cell 0, h.cell 1⟩
    obtain ⟨X, hX⟩ : ∃ X, txt (intsL [r, i]) = X := ⟨_, rfl⟩
    have hXs : X.size ≤ 27 := by rw [← hX, txt_size]; have := intsL_le [r, i]; simpa using this
    obtain ⟨KS, hKe⟩ : ∃ K, txt (skeyL (bl s) r i nonce n) = K := ⟨_, rfl⟩
    have hKb : bl KS = skeyL (bl s) r i nonce n := by rw [← hKe]; rfl
    have hKs : KS.size = 32 := by rw [← bl_len, hKb]; exact deriveL_len _ _ _
    have HI : Hid (∀ wx, Below W1.heap.size W1 wx → Calls Tryd.prog 63 #[.slice (some ⟨wx.heap.size, 0, none⟩) 2 2] (wx.alloc (.cells #[.int .i64 (r : Int), .int .i64 (i : Int)] 3)) fun e w' => ∃ v, e = .returned v ∧ (convert 65 9 v).run Tryd.prog w' = .ok (.string X) w' ∧ Below wx.heap.size wx w') := fun wx _ => by
      have hB := (Below.refl wx.heap.size wx).alloc (Nat.le_refl _) (.cells #[.int .i64 (r : Int), .int .i64 (i : Int)] 3)
      refine (ints_any _ wx.heap.size 0 2 2 [r, i] rfl (by decide) (by intro x hx; simp at hx; rcases hx with rfl | rfl <;> omega) (nats2 wx r i)).mono ?_
      rintro e w' ⟨v, rfl, hR, hB2⟩
      exact ⟨v, rfl, by rw [← hX]; exact conv_row hR, hB.trans (hB2.mono hB.size)⟩
    have HD : Hid (∀ wx, Below W1.heap.size W1 wx → Calls Tryd.prog 62 #[.string s, .string ⟨#[115, 101, 115, 115, 105, 111, 110]⟩, .slice (some ⟨wx.heap.size, 0, none⟩) 3 3] (wx.alloc (.cells #[.string X, .string nonce, .string n] 9)) fun e w' => e = .returned (.string KS) ∧ Below wx.heap.size wx w') := fun wx hBx => by
      have hB := (Below.refl wx.heap.size wx).alloc (Nat.le_refl _) (.cells #[.string X, .string nonce, .string n] 9)
      have h := derive_any (wx.alloc (.cells #[.string X, .string nonce, .string n] 9)) s ⟨#[115, 101, 115, 115, 105, 111, 110]⟩ (some ⟨wx.heap.size, 0, none⟩) 3 3 [X, nonce, n] rfl (by decide) (by intro x hx; simp at hx; rcases hx with rfl | rfl | rfl <;> omega) (lit_texts wx [X, nonce, n]) ((HKW.out.below hBx).below hB) (by omega) (by decide)
      refine h.mono ?_
      rintro e w' ⟨he, hB2⟩
      refine ⟨?_, hB.trans (hB2.mono hB.size)⟩
      rw [he, ← hKe, ← hX]
      rfl
    obtain ⟨T, hT⟩ : ∃ T, txt (welcomeL (skeyL (bl s) r i nonce n)) = T := ⟨_, rfl⟩
    have HW : Hid (∀ wx g o c, Below w.heap.size w wx → BytesAt wx g o sWelcome → Calls Tryd.prog 61 #[.string KS, .slice (some ⟨wx.heap.size, 0, none⟩) 1 1] (wx.alloc (.cells #[.slice (some ⟨g, o, none⟩) 7 c] 65)) fun e w' => e = .returned (.string T) ∧ Below wx.heap.size wx w') := fun wx g o c hBx hb => by
      have hB := (Below.refl wx.heap.size wx).alloc (Nat.le_refl _) (.cells #[.slice (some ⟨g, o, none⟩) 7 c] 65)
      have h := ssCode_any (wx.alloc (.cells #[.slice (some ⟨g, o, none⟩) 7 c] 65)) KS wx.heap.size 1 1 [sWelcome] rfl (by decide) (by decide) (by decide) (rows1 wx _ sWelcome ⟨g, o, c, rfl, hb⟩) (by omega) ((hK.below hBx).below hB)
      refine h.mono ?_
      rintro e w' ⟨he, hB2⟩
      refine ⟨?_, hB.trans (hB2.mono hB.size)⟩
      rw [he, ← hT, hKb]
      rfl
    have hfin : Hid (sesV ⟨(i : Int), (r : Int), side, txt (skeyL (bl s) r i nonce n), 0, 0, 0⟩ = .agg #[.int .i64 (i : Int), .int .i64 (r : Int), .int .i64 side, .string KS, .int .i64 0, .int .i64 0, .int .u64 0]) := by
      unfold Hid
      rw [hKe]
      rfl
    have hTH := Lib.hid hT
    clear HO2 hK hX hXs hKe hKb hKs hs hns h3 e3 hT
    refine wp_region_held_drew (S := (fun w' => w'.cell? ⟨w.heap.size, 0, none⟩ = some (.int .i64 (r : Int)) ∧ w'.cell? ⟨w.heap.size, 1, none⟩ = some (.string nonce))) (by kernel_rfl) (HS.out _ (Below.refl W1.heap.size W1).drew) (fun hHeld => ?_)
    refine' wpAnyH_take (i := 0) (v := ?v0) rfl (by kernel_rfl) (by kernel_rfl) (by kernel_rfl) (fun _ _ _ h => h) (Or.inl ⟨by rfl, ?hy0⟩) hHeld ?rest0
    case hy0 => intro w hSw; (try dsimp only at hSw); go_simp; all_goals with_reducible rfl
    try simp only [sA, gA]
    refine' wpAnyH_take (i := 1) (v := ?v1) rfl (by kernel_rfl) (by kernel_rfl) (by kernel_rfl) (fun _ _ _ h => h) (Or.inl ⟨by rfl, ?hy1⟩) hHeld ?rest1
    case hy1 => intro w hSw; (try dsimp only at hSw); go_simp; all_goals with_reducible rfl
    try simp only [sA, gA]
    refine' wpAnyH_take (i := 2) (v := ?v2) rfl (by kernel_rfl) (by kernel_rfl) (by kernel_rfl) (fun _ _ _ h => h) (Or.inl ⟨by rfl, ?hy2⟩) hHeld ?rest2
    case hy2 => intro w hSw; (try dsimp only at hSw); go_simp; all_goals with_reducible rfl
    try simp only [sA, gA]
    refine' wpAnyH_take (i := 3) (v := ?v3) rfl (by kernel_rfl) (by kernel_rfl) (by kernel_rfl) (fun _ _ _ h => h) (Or.inl ⟨by rfl, ?hy3⟩) hHeld ?rest3
    case hy3 => intro w hSw; (try dsimp only at hSw); go_simp; all_goals with_reducible rfl
    try simp only [sA, gA]
    refine' wpAnyH_take (i := 7) (v := ?v7) rfl (by kernel_rfl) (by kernel_rfl) (by kernel_rfl) (fun _ _ _ h => h) (Or.inl ⟨by rfl, ?hy7⟩) hHeld ?rest7
    case hy7 => intro w hSw; (try dsimp only at hSw); go_simp; all_goals with_reducible rfl
    try simp only [sA, gA]
    refine' wpAnyH_take (i := 8) (v := ?v8) rfl (by kernel_rfl) (by kernel_rfl) (by kernel_rfl) (fun _ _ _ h => h) (Or.inl ⟨by rfl, ?hy8⟩) hHeld ?rest8
    case hy8 => intro w hSw; (try dsimp only at hSw); go_simp; all_goals with_reducible rfl
    try simp only [sA, gA]
    refine' wpAnyH_take (i := 9) (v := ?v9) rfl (by kernel_rfl) (by kernel_rfl) (by kernel_rfl) (fun _ _ _ h => h) (Or.inl ⟨by rfl, ?hy9⟩) hHeld ?rest9
    case hy9 => intro w hSw; (try dsimp only at hSw); go_simp; all_goals with_reducible rfl
    try simp only [sA, gA]
    refine wpAnyH_ready (rs := [4]) (by kernel_rfl) (by simp) ?_
    refine AllReadyH.cons rfl (fun K hK => ?_) AllReadyH.nil
    go_simp
    refine hK.out _ _ ?_ (fun hHeld2 => ?_)
    · exact HS.out _ ((Below.refl W1.heap.size W1).drew.alloc (Nat.le_refl _) _)
    clear hK K hHeld
    have hHeld := hHeld2
    clear hHeld2
    try simp only [sA, gA]
    refine wpAnyH_ready (rs := [5]) (by kernel_rfl) (by simp) ?_
    refine AllReadyH.cons rfl (fun K hK => ?_) AllReadyH.nil
    go_simp
    go_at_call 63
    refine (HI.out W1.drew (Below.refl W1.heap.size W1).drew).mono ?_
    rintro e w2 ⟨v2, rfl, hcv2, hB⟩
    have HB2 := Lib.hid ((Below.refl W1.heap.size W1).drew.trans hB)
    clear hB
    go_wp2_with fail
    refine hK.out _ _ ?_ (fun hHeld2 => ?_)
    · exact HS.out _ HB2.out
    clear hK K hHeld
    have hHeld := hHeld2
    clear hHeld2
    try simp only [sA, gA]
    refine wpAnyH_ready (rs := [6]) (by kernel_rfl) (by simp) ?_
    refine AllReadyH.cons rfl (fun K hK => ?_) AllReadyH.nil
    go_simp
    refine hK.out _ _ ?_ (fun hHeld2 => ?_)
    · exact HS.out _ HB2.out
    clear hK K hHeld
    have hHeld := hHeld2
    clear hHeld2
    try simp only [sA, gA]
    refine wpAnyH_ready (rs := [10]) (by kernel_rfl) (by simp) ?_
    refine AllReadyH.cons rfl (fun K hK => ?_) AllReadyH.nil
    go_simp
    refine hK.out _ _ ?_ (fun hHeld2 => ?_)
    · exact HS.out _ (HB2.out.alloc HB2.out.size _)
    clear hK K hHeld
    have hHeld := hHeld2
    clear hHeld2
    try simp only [sA, gA]
    refine wpAnyH_ready (rs := [11]) (by kernel_rfl) (by simp) ?_
    refine AllReadyH.cons rfl (fun K hK => ?_) AllReadyH.nil
    go_simp
    go_at_call 62
    refine (HD.out w2 HB2.out).mono ?_
    rintro e w3 ⟨rfl, hB⟩
    have HB3 := Lib.hid (HB2.out.trans (hB.mono HB2.out.size))
    have hsb3 := HSB.out.below HB3.out HSB.out.lt
    have z3 := hsb3.cell 3
    have f3 := hsb3.frozen 3
    have HSB3 := Lib.hid hsb3
    clear hB hsb3
    go_wp2_with fail
    refine hK.out _ _ ?_ (fun hHeld2 => ?_)
    · exact HS.out _ HB3.out
    clear hK K hHeld
    have hHeld := hHeld2
    clear hHeld2
    try simp only [sA, gA]
    refine' wpAnyH_take (i := 12) (v := ?v12) rfl (by kernel_rfl) (by kernel_rfl) (by kernel_rfl) (fun _ _ _ h => h) (Or.inl ⟨by rfl, ?hy12⟩) hHeld ?rest12
    case hy12 => intro w hSw; (try dsimp only at hSw); go_simp; all_goals with_reducible rfl
    try simp only [sA, gA]
    refine wpAnyH_ready (rs := [13]) (by kernel_rfl) (by simp) ?_
    refine AllReadyH.cons rfl (fun K hK => ?_) AllReadyH.nil
    go_simp
    refine hK.out _ _ ?_ (fun hHeld2 => ?_)
    · exact HS2.out _ _ HB3.out
    clear hK K hHeld
    have hHeld := hHeld2
    clear hHeld2
    try simp only [sA, gA]
    refine wpAnyH_done (by kernel_rfl) ?_ _
    clear hHeld
    go_wp2_with fail
    have hBel3 : Hid (Below w.heap.size w (w3.setCell ⟨w.heap.size + 1, 3, none⟩ (.string KS))) := (HBel.out.trans (HB3.out.mono HBel.out.size)).setCell (p := ⟨w.heap.size + 1, 3, none⟩) (Nat.le_succ _) _
    have hW1B : Hid (∀ v, Below w.heap.size w (w3.setCell ⟨w.heap.size + 1, 3, none⟩ v)) := fun v => (HBel.out.trans (HB3.out.mono HBel.out.size)).setCell (p := ⟨w.heap.size + 1, 3, none⟩) (Nat.le_succ _) _
    have hsb6 := HSB3.out.set_ 3 (.string KS)
    refine world_is (P := fun W => Code.wp _ _ _ _ W) (fun W6 hW6 => ?_)
    rw [hW6] at hsb6 hBel3
    have HSB6 : Hid (Blk W6 (w.heap.size + 1) 32 #[.int .i64 (i : Int), .int .i64 (r : Int), .int .i64 side, .string KS, .int .i64 0, .int .i64 0, .int .u64 0]) := hsb6
    have hw6 : Hid (w.heap.size ≤ W6.heap.size) := hBel3.out.size
    have hle6 : Hid (W1.heap.size ≤ W6.heap.size) := by
      unfold Hid
      rw [← hW6]
      simp only [World.setCell, Array.size_modify]
      exact HB3.out.size
    clear hW6 hsb6 z3 f3 HSB3 HSB HB3 HB2 HS HS2 HI HD HHB hW1B
    have hcc : (convert 65 65 (.slice (some ⟨W6.heap.size, 0, none⟩) 7 7)).run Tryd.prog (W6.alloc (.cells #[.int .u8 119, .int .u8 101, .int .u8 108, .int .u8 99, .int .u8 111, .int .u8 109, .int .u8 101] 5)).drew = .ok (.slice (some ⟨W6.heap.size, 0, none⟩) 7 7) (markW W6.drew (sWelcome.map byteV).toArray) := conv_lit W6.drew (sWelcome.map byteV).toArray 7 7
    have hmB : Hid (Below W6.heap.size W6 (markW W6.drew (sWelcome.map byteV).toArray)) := (Below.refl W6.heap.size W6).drew.trans (markW_below W6.drew _)
    have hmY : Hid (BytesAt (markW W6.drew (sWelcome.map byteV).toArray) W6.heap.size 0 sWelcome) := markW_bytes W6.drew sWelcome
    generalize markW W6.drew (sWelcome.map byteV).toArray = WM at *
    have HS6 : Hid (∀ wx, Below W6.heap.size W6 wx → wx.cell? ⟨w.heap.size + 1, 0, none⟩ = some (.int .i64 (i : Int)) ∧ wx.cell? ⟨w.heap.size + 1, 1, none⟩ = some (.int .i64 (r : Int)) ∧ wx.cell? ⟨w.heap.size + 1, 2, none⟩ = some (.int .i64 side) ∧ wx.cell? ⟨w.heap.size + 1, 3, none⟩ = some (.string KS) ∧ wx.cell? ⟨w.heap.size + 1, 4, none⟩ = some (.int .i64 0) ∧ wx.cell? ⟨w.heap.size + 1, 5, none⟩ = some (.int .i64 0) ∧ wx.cell? ⟨w.heap.size + 1, 6, none⟩ = some (.int .u64 0)) := fun wx hB => by
      have h := HSB6.out.below hB HSB6.out.lt
      exact ⟨h.cell 0, h.cell 1, h.cell 2, h.cell 3, h.cell 4, h.cell 5, h.cell 6⟩
    refine wp_region_held_drew (S := (fun w' => w'.cell? ⟨w.heap.size + 1, 0, none⟩ = some (.int .i64 (i : Int)) ∧ w'.cell? ⟨w.heap.size + 1, 1, none⟩ = some (.int .i64 (r : Int)) ∧ w'.cell? ⟨w.heap.size + 1, 2, none⟩ = some (.int .i64 side) ∧ w'.cell? ⟨w.heap.size + 1, 3, none⟩ = some (.string KS) ∧ w'.cell? ⟨w.heap.size + 1, 4, none⟩ = some (.int .i64 0) ∧ w'.cell? ⟨w.heap.size + 1, 5, none⟩ = some (.int .i64 0) ∧ w'.cell? ⟨w.heap.size + 1, 6, none⟩ = some (.int .u64 0))) (by kernel_rfl) (HS6.out _ (Below.refl W6.heap.size W6).drew) (fun hHeld => ?_)
    refine' wpAnyH_take (i := 0) (v := ?v0B) rfl (by kernel_rfl) (by kernel_rfl) (by kernel_rfl) (fun _ _ _ h => h) (Or.inl ⟨by rfl, ?hy0B⟩) hHeld ?rest0B
    case hy0B => intro w hSw; (try dsimp only at hSw); go_simp; all_goals with_reducible rfl
    try simp only [sA, gA]
    refine' wpAnyH_take (i := 1) (v := ?v1B) rfl (by kernel_rfl) (by kernel_rfl) (by kernel_rfl) (fun _ _ _ h => h) (Or.inl ⟨by rfl, ?hy1B⟩) hHeld ?rest1B
    case hy1B => intro w hSw; (try dsimp only at hSw); go_simp; all_goals with_reducible rfl
    try simp only [sA, gA]
    refine' wpAnyH_take (i := 2) (v := ?v2B) rfl (by kernel_rfl) (by kernel_rfl) (by kernel_rfl) (fun _ _ _ h => h) (Or.inl ⟨by rfl, ?hy2B⟩) hHeld ?rest2B
    case hy2B => intro w hSw; (try dsimp only at hSw); go_simp; all_goals with_reducible rfl
    try simp only [sA, gA]
    refine wpAnyH_ready (rs := [3]) (by kernel_rfl) (by simp) ?_
    refine AllReadyH.cons rfl (fun K hK => ?_) AllReadyH.nil
    go_simp
    refine hK.out _ _ ?_ (fun hHeld2 => ?_)
    · exact HS6.out _ ((Below.refl W6.heap.size W6).drew.alloc (Nat.le_refl _) _)
    clear hK K hHeld
    have hHeld := hHeld2
    clear hHeld2
    try simp only [sA, gA]
    refine wpAnyH_ready (rs := [4]) (by kernel_rfl) (by simp) ?_
    refine AllReadyH.cons rfl (fun K hK => ?_) AllReadyH.nil
    go_simp
    refine hK.out _ _ ?_ (fun hHeld2 => ?_)
    · exact HS6.out _ hmB.out
    clear hK K hHeld
    have hHeld := hHeld2
    clear hHeld2
    try simp only [sA, gA]
    refine wpAnyH_ready (rs := [5]) (by kernel_rfl) (by simp) ?_
    refine AllReadyH.cons rfl (fun K hK => ?_) AllReadyH.nil
    go_simp
    refine hK.out _ _ ?_ (fun hHeld2 => ?_)
    · exact HS6.out _ (hmB.out.alloc hmB.out.size _)
    clear hK K hHeld
    have hHeld := hHeld2
    clear hHeld2
    try simp only [sA, gA]
    refine wpAnyH_ready (rs := [6]) (by kernel_rfl) (by simp) ?_
    refine AllReadyH.cons rfl (fun K hK => ?_) AllReadyH.nil
    go_simp
    go_at_call 61
    refine (HW.out WM W6.heap.size 0 7 (hBel3.out.trans (hmB.out.mono hw6.out)) hmY.out).mono ?_
    rintro e w7 ⟨rfl, hB⟩
    have HB7 := Lib.hid (hmB.out.trans (hB.mono hmB.out.size))
    have hsb7 := HSB6.out.below HB7.out HSB6.out.lt
    have z0 := hsb7.cell 0
    have f0 := hsb7.frozen 0
    have z1 := hsb7.cell 1
    have f1 := hsb7.frozen 1
    have z2 := hsb7.cell 2
    have f2 := hsb7.frozen 2
    have z3 := hsb7.cell 3
    have f3 := hsb7.frozen 3
    have z4 := hsb7.cell 4
    have f4 := hsb7.frozen 4
    have z5 := hsb7.cell 5
    have f5 := hsb7.frozen 5
    have z6 := hsb7.cell 6
    have f6 := hsb7.frozen 6
    have HSB8 := Lib.hid (blk7_same hsb7)
    have hb7w := hBel3.out.trans (HB7.out.mono hw6.out)
    have hB8 := Lib.hid ((((((((hb7w.setCell (p := ⟨w.heap.size + 1, 0, none⟩) (Nat.le_succ _) (.int .i64 (i : Int))).setCell (p := ⟨w.heap.size + 1, 1, none⟩) (Nat.le_succ _) (.int .i64 (r : Int))).setCell (p := ⟨w.heap.size + 1, 2, none⟩) (Nat.le_succ _) (.int .i64 side)).setCell (p := ⟨w.heap.size + 1, 3, none⟩) (Nat.le_succ _) (.string KS)).setCell (p := ⟨w.heap.size + 1, 4, none⟩) (Nat.le_succ _) (.int .i64 0)).setCell (p := ⟨w.heap.size + 1, 5, none⟩) (Nat.le_succ _) (.int .i64 0)).setCell (p := ⟨w.heap.size + 1, 6, none⟩) (Nat.le_succ _) (.int .u64 0)))
    clear hB hsb7 hb7w
    go_wp2_with fail
    refine hK.out _ _ ?_ (fun hHeld2 => ?_)
    · exact HS6.out _ HB7.out
    clear hK K hHeld
    have hHeld := hHeld2
    clear hHeld2
    try simp only [sA, gA]
    refine wpAnyH_ready (rs := [7]) (by kernel_rfl) (by simp) ?_
    refine AllReadyH.cons rfl (fun K hK => ?_) AllReadyH.nil
    go_simp
    refine hK.out _ _ ?_ (fun hHeld2 => ?_)
    · exact ⟨HSB8.out.cell 0, HSB8.out.cell 1, HSB8.out.cell 2, HSB8.out.cell 3, HSB8.out.cell 4, HSB8.out.cell 5, HSB8.out.cell 6⟩
    clear hK K hHeld
    have hHeld := hHeld2
    clear hHeld2
    try simp only [sA, gA]
    refine' wpAnyH_take (i := 8) (v := ?v8B) rfl (by kernel_rfl) (by kernel_rfl) (by kernel_rfl) (fun _ _ _ h => h) (Or.inl ⟨by rfl, ?hy8B⟩) hHeld ?rest8B
    case hy8B => intro w hSw; (try dsimp only at hSw); go_simp; all_goals with_reducible rfl
    try simp only [sA, gA]
    refine' wpAnyH_take (i := 9) (v := ?v9B) rfl (by kernel_rfl) (by kernel_rfl) (by kernel_rfl) (fun _ _ _ h => h) (Or.inl ⟨by rfl, ?hy9B⟩) hHeld ?rest9B
    case hy9B => intro w hSw; (try dsimp only at hSw); go_simp; all_goals with_reducible rfl
    try simp only [sA, gA]
    refine wpAnyH_done (by kernel_rfl) ?_ _
    clear hHeld
    go_wp2_with fail
    have hBL := hB8.out
    exact bodyPost_ret (v := .tuple #[.agg #[.int .i64 (i : Int), .int .i64 (r : Int), .int .i64 side, .string KS, .int .i64 0, .int .i64 0, .int .u64 0], .string T, .int .i64 0]) (results_ctt (P := Tryd.prog) (p := 10) (q := 11) (r := 12) rfl _ _ (w.heap.size + 1) 32 _ _ rfl HSB8.out Tryd.underlying32 rfl infoSes) rfl ⟨by rw [hfin.out, hTH.out]; rfl, hBL⟩
  · have hP : startP s h id side n = (noSes, noT, 1) := by unfold startP; rw [if_neg hO]
    rw [hP]
    unfold helV helC
    by_cases h0 : Opens s h.role h.nonce
    · have HO2 : Hid (∀ wx, Calls Tryd.prog 38 #[.string s, .int .i64 h.role, .string h.nonce] wx fun e w' => e = .returned (.int .i64 0) ∧ wx = w') := fun wx => by
        have h1 := HO.out wx
        rw [if_pos h0] at h1
        exact h1
      by_cases h1 : id < 1
      · have e1 : decide (id < 1) = true := decide_eq_true h1
        clear HO hP hO h0 hK
        go_enter Tryd.func42, Tryd.ntmps42
        go_wp2_with (first | (go_at_call 38; refine (HO2.out _).mono ?_; rintro e w1 ⟨rfl, rfl⟩) | fail)
        have hL := blk_new2 w (Obj.cells #[.int .i64 h.role, .string h.nonce, .string h.tag] 23) 32 zSes
        have hBL := ((Below.refl w.heap.size w).alloc (Nat.le_refl _) (Obj.cells #[.int .i64 h.role, .string h.nonce, .string h.tag] 23)).alloc (by rw [World.size_alloc]; exact Nat.le_succ _) (.cells zSes 32)
        exact bodyPost_ret (v := .tuple #[.agg zSes, .string ⟨#[]⟩, .int .i64 1]) (results_ctt (P := Tryd.prog) (p := 10) (q := 11) (r := 12) rfl _ _ (w.heap.size + 1) 32 zSes _ rfl hL Tryd.underlying32 rfl infoSes) rfl ⟨rfl, hBL⟩
      · have e1 : decide (id < 1) = false := decide_eq_false h1
        by_cases h2 : 64 < id
        · have e2 : decide (64 < id) = true := decide_eq_true h2
          clear HO hP hO h0 hK
          go_enter Tryd.func42, Tryd.ntmps42
          go_wp2_with (first | (go_at_call 38; refine (HO2.out _).mono ?_; rintro e w1 ⟨rfl, rfl⟩) | fail)
          have hL := blk_new2 w (Obj.cells #[.int .i64 h.role, .string h.nonce, .string h.tag] 23) 32 zSes
          have hBL := ((Below.refl w.heap.size w).alloc (Nat.le_refl _) (Obj.cells #[.int .i64 h.role, .string h.nonce, .string h.tag] 23)).alloc (by rw [World.size_alloc]; exact Nat.le_succ _) (.cells zSes 32)
          exact bodyPost_ret (v := .tuple #[.agg zSes, .string ⟨#[]⟩, .int .i64 1]) (results_ctt (P := Tryd.prog) (p := 10) (q := 11) (r := 12) rfl _ _ (w.heap.size + 1) 32 zSes _ rfl hL Tryd.underlying32 rfl infoSes) rfl ⟨rfl, hBL⟩
        · have e2 : decide (64 < id) = false := decide_eq_false h2
          have h3 : n.size ≠ 16 := fun e => hO ⟨h0, by omega, by omega, e⟩
          have e3 : ((n.size : Int) != 16) = true := by rw [bne_iff_ne]; omega
          clear HO hP hO h0 hK
          go_enter Tryd.func42, Tryd.ntmps42
          go_wp2_with (first | (go_at_call 38; refine (HO2.out _).mono ?_; rintro e w1 ⟨rfl, rfl⟩) | fail)
          have hL := blk_new2 w (Obj.cells #[.int .i64 h.role, .string h.nonce, .string h.tag] 23) 32 zSes
          have hBL := ((Below.refl w.heap.size w).alloc (Nat.le_refl _) (Obj.cells #[.int .i64 h.role, .string h.nonce, .string h.tag] 23)).alloc (by rw [World.size_alloc]; exact Nat.le_succ _) (.cells zSes 32)
          exact bodyPost_ret (v := .tuple #[.agg zSes, .string ⟨#[]⟩, .int .i64 1]) (results_ctt (P := Tryd.prog) (p := 10) (q := 11) (r := 12) rfl _ _ (w.heap.size + 1) 32 zSes _ rfl hL Tryd.underlying32 rfl infoSes) rfl ⟨rfl, hBL⟩
    · have HO2 : Hid (∀ wx, Calls Tryd.prog 38 #[.string s, .int .i64 h.role, .string h.nonce] wx fun e w' => e = .returned (.int .i64 1) ∧ wx = w') := fun wx => by
        have h1 := HO.out wx
        rw [if_neg h0] at h1
        exact h1
      have e9 : True := trivial
      clear HO hP hO h0 hK
      go_enter Tryd.func42, Tryd.ntmps42
      go_wp2_with (first | (go_at_call 38; refine (HO2.out _).mono ?_; rintro e w1 ⟨rfl, rfl⟩) | fail)
      have hL := blk_new2 w (Obj.cells #[.int .i64 h.role, .string h.nonce, .string h.tag] 23) 32 zSes
      have hBL := ((Below.refl w.heap.size w).alloc (Nat.le_refl _) (Obj.cells #[.int .i64 h.role, .string h.nonce, .string h.tag] 23)).alloc (by rw [World.size_alloc]; exact Nat.le_succ _) (.cells zSes 32)
      exact bodyPost_ret (v := .tuple #[.agg zSes, .string ⟨#[]⟩, .int .i64 1]) (results_ctt (P := Tryd.prog) (p := 10) (q := 11) (r := 12) rfl _ _ (w.heap.size + 1) 32 zSes _ rfl hL Tryd.underlying32 rfl infoSes) rfl ⟨rfl, hBL⟩
end Go.Proofs.YtbhagfdkipgggaaDoor
