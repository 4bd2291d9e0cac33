/-
  Layer 29 (session): the law of numbers that are accepted once.
-/
import Derived.Test.YtbhagfdkipgggaaDoorMR
import Derived.Test.YtbhagfdkipgggaaDoorRowG
namespace Go.Proofs.YtbhagfdkipgggaaDoor
open Go.RowKit Go.Shelf
attribute [local go_sem] Oper.semAt_some
def intV (n : Int) : Value := .int .i64 n
/-- 16-bit numbers in memory. -/
def U16At (w : World) (A : Option Addr) (b o : Nat) (l : List Nat) : Prop :=
  ∀ (i x : Nat), l[i]? = some x → A = some ⟨b, o, none⟩ ∧ b < w.heap.size ∧ w.cell? ⟨b, o + i, none⟩ = some (.int .u16 (x : Int)) ∧ x < 65536
theorem any_slice {w : World} {base : Nat} {t : TypeId} {k n : Nat} {v : Value} {xs : List Value} (h : w.ownsRow base t k v n xs) : ∃ A c, v = .slice A n c := by
  rcases h.2 with ⟨hv, h0⟩ | ⟨g, cap, cur, hv, _⟩
  · exact ⟨none, 0, by rw [hv, h0]⟩
  · exact ⟨_, _, hv⟩
/-- The round's state: the session, the peer, the numbers that were taken. -/
structure NTw (w wr w3 : World) (gp : Nat) (cs ps : Array Value) (v : Value) (T : List Int) (s : Ses) : Prop where
  cur : Blk wr w.heap.size 32 cs
  peer : Blk wr gp 32 ps
  bel : Below w.heap.size w wr
  row : wr.ownsRow w3.heap.size 3 1 v T.length (T.map intV)
  valid : validP s = true
  seen_range : s.seen < 18446744073709551616
  stale : ∀ t ∈ T, freshP s t = false
  base_le : w3.heap.size ≤ wr.heap.size
section
variable {w wr wy w3 : World} {gp : Nat} {cs ps : Array Value} {v : Value} {T : List Int} {s : Ses}
theorem ownsRow_set {base g i : Nat} {t : TypeId} {k n : Nat} {xs : List Value} {x : Value} (h : w.ownsRow base t k v n xs) (hg : g < base) : (w.setCell ⟨g, i, none⟩ x).ownsRow base t k v n xs :=
  World.ownsRow.kept h (grown_set' w g i x) (by
    cases e : v.ownBlock with
    | none => exact .inl rfl
    | some q =>
      have := (h.lt q e).1
      refine .inr (fun e2 => ?_)
      cases e2
      omega)
theorem NTw.below (h : NTw w wr w3 gp cs ps v T s) (hB : Below wr.heap.size wr wy) : NTw w wy w3 gp cs ps v T s :=
  ⟨h.cur.below hB h.cur.lt, h.peer.below hB h.peer.lt, h.bel.trans (hB.mono h.bel.size), ownsRow_below h.row hB (Nat.le_refl _), h.valid, h.seen_range, h.stale, Nat.le_trans h.base_le hB.size⟩
theorem NTw.alloc (h : NTw w wr w3 gp cs ps v T s) (o : Obj) : NTw w (wr.alloc o) w3 gp cs ps v T s := h.below ((Below.refl _ wr).alloc (Nat.le_refl _) o)
theorem NTw.set_peer {y0 y1 y2 y3 y4 y5 y6 x : Value} (h : NTw w wr w3 gp cs #[y0, y1, y2, y3, y4, y5, y6] v T s) (h1 : w.heap.size < gp) (h2 : gp < w3.heap.size) : NTw w (wr.setCell ⟨gp, 4, none⟩ x) w3 gp cs #[y0, y1, y2, y3, x, y5, y6] v T s :=
  ⟨h.cur.other (by show w.heap.size ≠ gp; omega) _, by
    have h3 := h.peer.set_ 4 x
    simpa only [List.setIfInBounds_toArray, List.set_cons_zero, List.set_cons_succ] using h3, h.bel.setCell (p := ⟨gp, 4, none⟩) (Nat.le_of_lt h1) _, ownsRow_set h.row h2, h.valid, h.seen_range, h.stale, by rw [World.size_setCell]; exact h.base_le⟩
theorem row_cell {base n c : Nat} {A : Option Addr} {l : List Int} {q : Nat} {t : Int} {el : TypeId} (h : wr.ownsRow base el 1 (.slice A n c) l.length (l.map intV)) (ht : l[q]? = some t) : ∃ g, A = some ⟨g, 0, none⟩ ∧ wr.cell? ⟨g, q, none⟩ = some (.int .i64 t) := by
  rcases h.2 with ⟨_, h0⟩ | ⟨g, cap, cur, hv, _⟩
  · have := (List.getElem?_eq_some_iff.1 ht).1
    omega
  · cases hv
    refine ⟨g, rfl, ?_⟩
    have h2 := h.cells (g := g) rfl q (intV t) (by rw [List.getElem?_map, ht]; rfl)
    rw [Addr.add_lit, Nat.zero_add] at h2
    exact h2
theorem own_ne {base n k g : Nat} {el t : TypeId} {xs : List Value} {cs2 : Array Value} (h : wr.ownsRow base el k v n xs) (hg : Blk wr g t cs2) (hne : t ≠ el) : some g ≠ v.ownBlock := by
  intro e
  rcases h.2 with ⟨rfl, _⟩ | ⟨g2, cap, cur, rfl, _, hg2, _⟩
  · cases e
  · cases e
    exact Blk.ne_ hg hg2 hne rfl
theorem NTw.cur_pushed {w9 : World} {v2 : Value} {n : Nat} {xs : List Value} (h : NTw w wr w3 gp cs ps v T s) (hP : GPushed wr w9 w3.heap.size 3 1 v v2 n xs) (h1 : w.heap.size < gp) (h2 : gp < w3.heap.size) :
    Blk w9 w.heap.size 32 cs ∧ Blk w9 gp 32 ps ∧ Below w.heap.size w w9 ∧ w3.heap.size ≤ w9.heap.size := by
  have hlow : ∀ g, g < w3.heap.size → some g ≠ v.ownBlock := fun g hg e => by
    have := (h.row.lt g e.symm).1
    omega
  exact ⟨h.cur.grown hP.grown (hlow _ (by omega)), h.peer.grown hP.grown (hlow _ h2), hP.bel _ _ (by omega) h.base_le h.bel, Nat.le_trans h.base_le hP.grown.size⟩
theorem NTw.top_range (h : NTw w wr w3 gp cs ps v T s) : 0 ≤ s.top ∧ s.top ≤ 4294967296 := by
  obtain ⟨a1, a2, a3, a4, a5, a6, a7, a8, a9, a10⟩ := valid_parts h.valid
  exact ⟨a9, a10⟩
end
theorem below_set7 {B : Nat} {a w : World} {g : Nat} (h : Below B a w) (hg : B ≤ g) (x0 x1 x2 x3 x4 x5 x6 : Value) : Below B a (((((((w.setCell ⟨g, 0, none⟩ x0).setCell ⟨g, 1, none⟩ x1).setCell ⟨g, 2, none⟩ x2).setCell ⟨g, 3, none⟩ x3).setCell ⟨g, 4, none⟩ x4).setCell ⟨g, 5, none⟩ x5).setCell ⟨g, 6, none⟩ x6) :=
  ((((((h.setCell hg _).setCell hg _).setCell hg _).setCell hg _).setCell hg _).setCell hg _).setCell hg _
theorem infoInt8 : (Tryd.prog.info? 3).map (fun i => (i.zero, i.size, i.bytes)) = some (some (.int .i64 0), 1, 8) := by kernel_rfl
theorem blk7_2 {w : World} {g : Nat} {t : TypeId} {x0 x1 x2 x3 x4 x5 x6 : Value} (h : Blk w g t #[x0, x1, x2, x3, x4, x5, x6]) (a : Value) : Blk (w.setCell ⟨g, 2, none⟩ a) g t #[x0, x1, a, x3, x4, x5, x6] := by
  have h1 := h.set_ 2 a
  simpa only [List.setIfInBounds_toArray, List.set_cons_zero, List.set_cons_succ] using h1
set_option maxRecDepth 100000 in
set_option maxHeartbeats 8000000 in
theorem law_twice (w : World) (s : Ses) (A : Option Addr) (b o c : Nat) (l : List Nat) (hK : KAt w 1) (hs : s.key.size ≤ 400 → s.Fits) (hU : U16At w A b o l) :
    Calls Tryd.prog 8 #[sesV s, .slice A l.length c] w fun e w' => e = .returned (.bool true) ∧ Below w.heap.size w w' := by
  have HSA : Hid (∀ wx, Below w.heap.size w wx → Calls Tryd.prog 10 #[] wx fun e w' => e = .returned (.bool true) ∧ Below wx.heap.size wx w') := fun wx hB => sanity_any wx (hK.below hB)
  by_cases z0 : l.length ≤ 60
  · by_cases z1 : s.key.size ≤ 100
    · by_cases z2 : validP s = true
      · by_cases z3 : s.top ≤ 1048576
        · have hfit := hs (by omega)
          have HV : Hid (∀ wx, Below w.heap.size w wx → Calls Tryd.prog 21 #[sesV s] wx fun e w' => e = .returned (.bool true) ∧ Below wx.heap.size wx w') := fun wx _ => by have h := valid_any wx s hfit; rw [z2] at h; exact h
          have dL : decide ((60 : Int) < (l.length : Int)) = false := decide_eq_false (by omega)
          have dK : decide ((100 : Int) < (s.key.size : Int)) = false := decide_eq_false (by omega)
          have dT : decide ((1048576 : Int) < s.top) = false := decide_eq_false (by omega)
          have hvp := valid_parts z2
          have hside : s.side = 1 ∨ s.side = 2 := hvp.2.2.2.2.1
          have HSD : Hid (∀ (x : Nat), x < 65536 → ∃ (SX : ByteArray), (∀ wx, Below w.heap.size w wx → Calls Tryd.prog 17 #[sesV { s with side := 3 - s.side, sent := x }, .string ⟨#[120]⟩] wx fun e w' => e = .returned (.tuple #[sesV { s with side := 3 - s.side, sent := x + 1 }, msgV ⟨s.id, x + 1, SX⟩, .int .i64 0]) ∧ Below wx.heap.size wx w') ∧
              ∀ (top : Int) (seen : Nat), validP { s with top := top, seen := seen } = true → Ses.Fits { s with top := top, seen := seen } →
                (freshP { s with top := top, seen := seen } (x + 1) = true → ∀ wx, Below w.heap.size w wx → Calls Tryd.prog 19 #[sesV { s with top := top, seen := seen }, msgV ⟨s.id, x + 1, SX⟩] wx fun e w' => e = .returned (.tuple #[sesV (markP { s with top := top, seen := seen } (x + 1)), .string ⟨#[120]⟩, .int .i64 0]) ∧ Below wx.heap.size wx w') ∧
                (freshP { s with top := top, seen := seen } (x + 1) = false → ∀ wx, Below w.heap.size w wx → Calls Tryd.prog 19 #[sesV { s with top := top, seen := seen }, msgV ⟨s.id, x + 1, SX⟩] wx fun e w' => e = .returned (.tuple #[sesV noSes, .string ⟨#[]⟩, .int .i64 17]) ∧ Below wx.heap.size wx w')) := fun x hx => by
            have hpf : Ses.Fits { s with side := 3 - s.side, sent := (x : Int) } := by
              obtain ⟨f1, f2, f3, f4, f5, f6, f7⟩ := hfit
              exact ⟨f1, f2, by dsimp only; omega, by dsimp only; omega, f5, f6, f7⟩
            have hsz : (sealP { s with side := 3 - s.side, sent := (x : Int) } ⟨#[120]⟩).size ≤ 1000000 := by rw [sealP_size]; decide
            refine ⟨sealP { s with side := 3 - s.side, sent := x } ⟨#[120]⟩, fun wx hB => ?_, fun top seen hv hf => ⟨fun hfr wx hB => ?_, fun hfr wx hB => ?_⟩⟩
            · have h1 := send_any wx _ ⟨#[120]⟩ hpf (by decide) (hK.below hB)
              rw [peer_send s ⟨#[120]⟩ x z2 hx] at h1
              exact h1
            · have h1 := receive_any wx _ ⟨s.id, x + 1, sealP { s with side := 3 - s.side, sent := x } ⟨#[120]⟩⟩ hf hsz (hK.below hB)
              rw [peer_recv s ⟨#[120]⟩ x top seen hv, if_pos hfr] at h1
              exact h1
            · have h1 := receive_any wx _ ⟨s.id, x + 1, sealP { s with side := 3 - s.side, sent := x } ⟨#[120]⟩⟩ hf hsz (hK.below hB)
              rw [peer_recv s ⟨#[120]⟩ x top seen hv, if_neg (by rw [hfr]; decide)] at h1
              exact h1
          have hfitH : Hid (∀ (top : Int) (seen : Nat), 0 ≤ top ∧ top ≤ 4294967296 → seen < 18446744073709551616 → Ses.Fits { s with top := top, seen := seen }) := fun top seen h1 h2 => by
            obtain ⟨f1, f2, f3, f4, f5, f6, f7⟩ := hfit
            exact ⟨f1, f2, f3, f4, by dsimp only; omega, h2, f7⟩
          have hvalH : Hid (validP s = true) := z2
          have hseen : s.seen < 18446744073709551616 := hfit.seen
          have h60 : l.length ≤ 60 := by omega
          clear hs hK hvp z0 z1 z2 z3 hfit
          obtain ⟨id, role, side, key, sent, top, seen⟩ := s
          unfold sesV sesC msgV msgC at HSD
          unfold sesV sesC at HV ⊢
          dsimp only at HV HSD hfitH hvalH hseen hside dK dT ⊢
          have hUH := Lib.hid hU
          have h60H := Lib.hid h60
          have hseenH := Lib.hid hseen
          clear hU h60 hseen
          go_enter Tryd.func8, Tryd.ntmps8
          go_upto_region 4 with (first | (have hmk := HB1; clear hmk; go_at_call 21; refine (HV.out _ HB1.out).mono ?_; rintro e w2 ⟨rfl, hB⟩; have HS2 := Lib.hid (HS1.out.below hB HS1.out.lt); have HB2 := Lib.hid (HB1.out.trans (hB.mono HB1.out.size)); have d0 := HS2.out.cell 0; have d1 := HS2.out.cell 1; have d2 := HS2.out.cell 2; have d3 := HS2.out.cell 3; have d4 := HS2.out.cell 4; have d5 := HS2.out.cell 5; have d6 := HS2.out.cell 6; clear hB) | (go_at_call 10; refine (HSA.out _ ((Below.refl w.heap.size w).alloc (Nat.le_refl _) _)).mono ?_; rintro e w1 ⟨rfl, hB⟩; have HS1 := Lib.hid ((Blk.new w 32 #[.int .i64 id, .int .i64 role, .int .i64 side, .string key, .int .i64 sent, .int .i64 top, .int .u64 (seen : Int)]).below hB (by rw [World.size_alloc]; exact Nat.lt_succ_self _)); have HB1 := Lib.hid (((Below.refl w.heap.size w).alloc (Nat.le_refl _) (.cells #[.int .i64 id, .int .i64 role, .int .i64 side, .string key, .int .i64 sent, .int .i64 top, .int .u64 (seen : Int)] 32)).trans (hB.mono (by rw [World.size_alloc]; exact Nat.le_succ _))); have c0 := HS1.out.cell 0; have c1 := HS1.out.cell 1; have c2 := HS1.out.cell 2; have c3 := HS1.out.cell 3; have c4 := HS1.out.cell 4; have c5 := HS1.out.cell 5; have c6 := HS1.out.cell 6; clear hB) | fail)
          have s1 : wrap64 (3 - side) = 3 - side := by rw [wrap64]; omega
          go_upto_region 5 with fail
          refine world_is (P := fun W => Code.wp _ _ _ _ W) (fun W2 hW2 => ?_)
          have HSx : Hid (Blk W2 w.heap.size 32 #[.int .i64 id, .int .i64 role, .int .i64 side, .string key, .int .i64 sent, .int .i64 top, .int .u64 (seen : Int)]) := by unfold Hid; rw [← hW2]; exact HS2.out.alloc _
          have HPx : Hid (Blk W2 w2.heap.size 32 #[.int .i64 id, .int .i64 role, .int .i64 side, .string key, .int .i64 sent, .int .i64 top, .int .u64 (seen : Int)]) := by unfold Hid; rw [← hW2]; exact Blk.new w2 _ _
          have HBx : Hid (Below w.heap.size w W2) := by unfold Hid; rw [← hW2]; exact HB2.out.alloc HB2.out.size _
          have hgp : Hid (w.heap.size < w2.heap.size) := HS2.out.lt
          clear hW2 c0 c1 c2 c3 c4 c5 c6 d0 d1 d2 d3 d4 d5 d6 HS1 HB1 HS2 HB2 HV HSA hside dL dK dT
          obtain ⟨gp, egp⟩ : ∃ g, w2.heap.size = g := ⟨_, rfl⟩
          rw [egp] at HPx hgp ⊢
          clear egp w2 w1
          have c2 := HSx.out.cell 2; have p2 := HPx.out.cell 2; have f2 := HPx.out.frozen 2
          have hne : w.heap.size ≠ gp := Nat.ne_of_lt hgp.out
          go_upto_region 6 with fail
          refine world_is (P := fun W => Code.wp _ _ _ _ W) (fun W3 hW3 => ?_)
          have HS3 : Hid (Blk W3 w.heap.size 32 #[.int .i64 id, .int .i64 role, .int .i64 side, .string key, .int .i64 sent, .int .i64 top, .int .u64 (seen : Int)]) := by unfold Hid; rw [← hW3]; exact HSx.out.other hne _
          have HP3 : Hid (Blk W3 gp 32 #[.int .i64 id, .int .i64 role, .int .i64 (3 - side), .string key, .int .i64 sent, .int .i64 top, .int .u64 (seen : Int)]) := by unfold Hid; rw [← hW3]; exact blk7_2 HPx.out _
          have HB3 : Hid (Below w.heap.size w W3) := by unfold Hid; rw [← hW3]; exact HBx.out.setCell (p := ⟨gp, 2, none⟩) (Nat.le_of_lt hgp.out) _
          clear hW3 c2 p2 f2 hne HSx HPx HBx s1
          have hbase : Hid (gp < W3.heap.size) := HP3.out.lt
          have HN3 : Hid (NTw w W3 W3 gp #[.int .i64 id, .int .i64 role, .int .i64 side, .string key, .int .i64 sent, .int .i64 top, .int .u64 (seen : Int)] #[.int .i64 id, .int .i64 role, .int .i64 (3 - side), .string key, .int .i64 sent, .int .i64 top, .int .u64 (seen : Int)] (.slice none 0 0) [] ⟨id, role, side, key, sent, top, seen⟩) :=
            ⟨HS3.out, HP3.out, HB3.out, World.ownsRow_nil _ _ _ _, hvalH.out, hseenH.out, fun t ht => (by cases ht), Nat.le_refl _⟩
          go_upto_region 8 with fail
          clear HS3 HP3 HB3
          go_loopw [7, 8] (fun v i wr => ∃ (k : Nat) (ctop ps : Int) (cseen : Nat) (T : List Int), k ≤ l.length ∧ i = .int .i64 k ∧ Hid (T.length ≤ k) ∧ Hid (NTw w wr W3 gp #[.int .i64 id, .int .i64 role, .int .i64 side, .string key, .int .i64 sent, .int .i64 ctop, .int .u64 (cseen : Int)] #[.int .i64 id, .int .i64 role, .int .i64 (3 - side), .string key, .int .i64 ps, .int .i64 top, .int .u64 (seen : Int)] v T ⟨id, role, side, key, sent, ctop, cseen⟩)) (fun _ i _ => l.length - (intOf i).toNat)
          case atStart => exact ⟨0, top, sent, seen, [], Nat.zero_le _, rfl, Nat.le_refl _, HN3⟩
          case round =>
            clear HN3
            obtain ⟨k, ctop, ps, cseen, T, hk, rfl, hTl, HN⟩ := hrel
            obtain ⟨TA, Tc, hv⟩ := any_slice HN.out.row
            subst hv
            by_cases hkl : k < l.length
            · have dk : decide (k < l.length) = true := decide_eq_true hkl
              have hk0 : (0 : Int) ≤ (k : Int) := by omega
              have hk1 : (k : Int) < (l.length : Int) := by omega
              obtain ⟨x, hx⟩ : ∃ x, l[k]? = some x := ⟨_, List.getElem?_eq_getElem hkl⟩
              obtain ⟨rfl, hbl, hcell, hx16⟩ := hUH.out k x hx
              have cx : wr.cell? ⟨b, o + k, none⟩ = some (.int .u16 (x : Int)) := (HN.out.bel.cell (p := ⟨b, o + k, none⟩) hbl).trans hcell
              have wx : IntKind.i64.wrap (x : Int) = (x : Int) := i64_is x (by omega)
              have hklH := Lib.hid hkl
              obtain ⟨SX, HS1, HR1⟩ := HSD.out x hx16
              have HSDx := Lib.hid HS1
              have HRx := Lib.hid (HR1 ctop cseen HN.out.valid (hfitH.out ctop cseen HN.out.top_range HN.out.seen_range))
              clear HS1 HR1 hx hkl hcell hbl
              go_upto_region 11 with fail
              clear cx wx hk0 hk1 dk
              obtain ⟨n, hn⟩ : ∃ n : Int, 1 + (x : Int) = n := ⟨_, rfl⟩
              have hn2 : (x : Int) + 1 = n := by omega
              rw [hn]
              rw [hn2] at HSDx HRx
              have wn : wrap64 (n - 1) = (x : Int) := by rw [wrap64]; omega
              have hnr : Hid (1 ≤ n ∧ n ≤ 65536) := ⟨by omega, by omega⟩
              clear hn hn2 hx16
              have p4 := HN.out.peer.cell 4
              have f4 := HN.out.peer.frozen 4
              go_upto_region 12 with fail
              refine world_is (P := fun W => Code.wp _ _ _ _ W) (fun W4 hW4 => ?_)
              have HN4 : Hid (NTw w W4 W3 gp #[.int .i64 id, .int .i64 role, .int .i64 side, .string key, .int .i64 sent, .int .i64 ctop, .int .u64 (cseen : Int)] #[.int .i64 id, .int .i64 role, .int .i64 (3 - side), .string key, .int .i64 x, .int .i64 top, .int .u64 (seen : Int)] (.slice TA T.length Tc) T ⟨id, role, side, key, sent, ctop, cseen⟩) := by unfold Hid; rw [← hW4]; exact HN.out.set_peer hgp.out hbase.out
              clear hW4 p4 f4 wn HN
              have p0 := HN4.out.peer.cell 0; have p1 := HN4.out.peer.cell 1; have p2 := HN4.out.peer.cell 2; have p3 := HN4.out.peer.cell 3; have p4 := HN4.out.peer.cell 4; have p5 := HN4.out.peer.cell 5; have p6 := HN4.out.peer.cell 6
              go_upto_region 13 with (first | (go_at_call 17; refine (HSDx.out _ HN4.out.bel).mono ?_; rintro e w5 ⟨rfl, hB⟩; have HN5 := Lib.hid (HN4.out.below hB); clear hB) | fail)
              refine world_is (P := fun W => Code.wp _ _ _ _ W) (fun W6 hW6 => ?_)
              have HM6 : Hid (Blk W6 (w5.heap.size + 1) 42 #[.int .i64 id, .int .i64 n, .string SX]) := by unfold Hid; rw [← hW6]; have h1 := Blk.new (w5.alloc (.cells #[.int .i64 id, .int .i64 role, .int .i64 (3 - side), .string key, .int .i64 n, .int .i64 top, .int .u64 (seen : Int)] 32)) 42 #[.int .i64 id, .int .i64 n, .string SX]; rw [World.size_alloc] at h1; exact h1
              have HN6 : Hid (NTw w W6 W3 gp #[.int .i64 id, .int .i64 role, .int .i64 side, .string key, .int .i64 sent, .int .i64 ctop, .int .u64 (cseen : Int)] #[.int .i64 id, .int .i64 role, .int .i64 (3 - side), .string key, .int .i64 x, .int .i64 top, .int .u64 (seen : Int)] (.slice TA T.length Tc) T ⟨id, role, side, key, sent, ctop, cseen⟩) := by unfold Hid; rw [← hW6]; exact (HN5.out.alloc _).alloc _
              clear hW6 p0 p1 p2 p3 p4 p5 p6 HN4 HN5 HSDx
              have m0 := HM6.out.cell 0; have m1 := HM6.out.cell 1; have m2 := HM6.out.cell 2
              have c0 := HN6.out.cur.cell 0; have c1 := HN6.out.cur.cell 1; have c2 := HN6.out.cur.cell 2; have c3 := HN6.out.cur.cell 3; have c4 := HN6.out.cur.cell 4; have c5 := HN6.out.cur.cell 5; have c6 := HN6.out.cur.cell 6
              by_cases hf : freshP ⟨id, role, side, key, sent, ctop, cseen⟩ n = true
              · have HRy := Lib.hid (HRx.out.1 hf)
                have hmk := mark_parts ⟨id, role, side, key, sent, ctop, cseen⟩ n
                have htp := mark_top ⟨id, role, side, key, sent, ctop, cseen⟩ n hf
                have hst := fun t => stale_stays ⟨id, role, side, key, sent, ctop, cseen⟩ n t HN6.out.top_range.1
                have hnf := mark_not_fresh ⟨id, role, side, key, sent, ctop, cseen⟩ n
                have hvv := mark_valid ⟨id, role, side, key, sent, ctop, cseen⟩ n HN6.out.valid
                have hsr := (mark_fits (hfitH.out ctop cseen HN6.out.top_range HN6.out.seen_range) n ⟨by have := hnr.out; omega, by have := hnr.out; omega⟩).seen
                have hstale := fun t ht => HN6.out.stale t ht
                clear HRx
                generalize markP ⟨id, role, side, key, sent, ctop, cseen⟩ n = MK at *
                obtain ⟨m0', m1', m2', m3', m4', ntop, nseen⟩ := MK
                dsimp only at hmk htp hsr HRy
                simp only [Ses.mk.injEq, and_true] at hmk
                obtain ⟨rfl, rfl, rfl, rfl, rfl⟩ : id = m0' ∧ role = m1' ∧ side = m2' ∧ key = m3' ∧ sent = m4' := ⟨hmk.1.symm, hmk.2.1.symm, hmk.2.2.1.symm, hmk.2.2.2.1.symm, hmk.2.2.2.2.symm⟩
                clear hmk
                have hnT : Hid (∀ t ∈ T, t ≠ n) := fun t ht e => by
                  have h1 := hstale t ht
                  rw [e, hf] at h1
                  cases h1
                have hstT : Hid (∀ t ∈ T ++ [n], freshP ⟨id, role, side, key, sent, ntop, nseen⟩ t = false) := fun t ht => by
                  rcases List.mem_append.1 ht with h | h
                  · exact hst t (hstale t h)
                  · rw [List.mem_singleton.1 h]
                    exact hnf
                have hvvH := Lib.hid hvv
                have hsrH := Lib.hid hsr
                have htpH := Lib.hid htp
                have htr := Lib.hid HN6.out.top_range
                clear hst hnf hvv hsr hf htp hstale
                go_upto_region 14 with (first | (go_at_call 19; refine (HRy.out _ HN6.out.bel).mono ?_; rintro e w7 ⟨rfl, hB⟩; have HN7 := Lib.hid (HN6.out.below hB); clear hB) | fail)
                refine world_is (P := fun W => Code.wp _ _ _ _ W) (fun W8 hW8 => ?_)
                have HX8 : Hid (Blk W8 w7.heap.size 32 #[.int .i64 id, .int .i64 role, .int .i64 side, .string key, .int .i64 sent, .int .i64 ntop, .int .u64 (nseen : Int)]) := by unfold Hid; rw [← hW8]; exact Blk.new w7 _ _
                have HN8 : Hid (NTw w W8 W3 gp #[.int .i64 id, .int .i64 role, .int .i64 side, .string key, .int .i64 sent, .int .i64 ctop, .int .u64 (cseen : Int)] #[.int .i64 id, .int .i64 role, .int .i64 (3 - side), .string key, .int .i64 x, .int .i64 top, .int .u64 (seen : Int)] (.slice TA T.length Tc) T ⟨id, role, side, key, sent, ctop, cseen⟩) := by unfold Hid; rw [← hW8]; exact HN7.out.alloc _
                have hxn : Hid (w.heap.size ≠ w7.heap.size) := Nat.ne_of_lt (Nat.lt_of_lt_of_le HN7.out.cur.lt (Nat.le_refl _))
                have hxg : Hid (W3.heap.size ≤ w7.heap.size) := HN7.out.base_le
                clear hW8 c0 c1 c2 c3 c4 c5 c6 m0 m1 m2 HN6 HN7 HM6 HRy
                obtain ⟨gx, egx⟩ : ∃ g, w7.heap.size = g := ⟨_, rfl⟩
                rw [egx] at HX8 hxn hxg ⊢
                clear egx
                go_upto_region 18 with fail
                go_loopw [16] (fun j wr2 => ∃ q : Nat, q ≤ T.length ∧ j = .int .i64 q ∧ wr2 = W8) (fun j _ => T.length - (intOf j).toNat)
                case atStart => exact ⟨0, Nat.zero_le _, rfl, rfl⟩
                case round =>
                  obtain ⟨q, hq, rfl, rfl⟩ := hrel
                  by_cases hqT : q < T.length
                  · have d1 : decide (q < T.length) = true := decide_eq_true hqT
                    have hq0 : (0 : Int) ≤ (q : Int) := by omega
                    have hq1 : (q : Int) < (T.length : Int) := by omega
                    obtain ⟨t, ht⟩ : ∃ t, T[q]? = some t := ⟨_, List.getElem?_eq_getElem hqT⟩
                    have htn : (t == n) = false := beq_eq_false_iff_ne.2 (hnT.out t (List.mem_of_getElem? ht))
                    obtain ⟨gr, e1, hcr⟩ := row_cell HN8.out.row ht
                    subst e1
                    have hqH := Lib.hid hqT
                    have hT60 : Hid (T.length ≤ 60) := by have := hTl.out; have := hklH.out; have := h60H.out; unfold Hid; omega
                    clear ht hqT
                    go_wp2_with fail
                    have hwq : wrap64 ((q : Int) + 1) = ((q + 1 : Nat) : Int) := by rw [Int.natCast_add]; exact wrap64_in _ ⟨by omega, by have := hqH.out; have := hT60.out; omega⟩
                    rw [hwq]
                    exact ⟨⟨q + 1, hqH.out, rfl, trivial⟩, by have := hqH.out; simp [intOf]; omega⟩
                  · obtain rfl : q = T.length := by omega
                    have d1 : decide (T.length < T.length) = false := decide_eq_false (Nat.lt_irrefl _)
                    have hw9 : wrap64 (ctop - n) = ctop - n := by have h1 : 0 ≤ ctop ∧ ctop ≤ 4294967296 := htr.out; have h2 := hnr.out; rw [wrap64]; omega
                    have d2 : decide (64 ≤ ctop - n) = false := decide_eq_false (by have := htpH.out.1; omega)
                    have d3 : decide (ntop < ctop) = false := decide_eq_false (by have := htpH.out.2.1; omega)
                    have d4 : decide (ntop < n) = false := decide_eq_false (by have := htpH.out.2.2; omega)
                    have c5 := HN8.out.cur.cell 5
                    have x5 := HX8.out.cell 5
                    have hT60 : Hid (T.length + 1 ≤ 1000000) := by have := hTl.out; have := hklH.out; have := h60H.out; unfold Hid; omega
                    have hxo := Lib.hid (own_ne HN8.out.row HX8.out (by decide))
                    go_upto_region 25 with (first
                      | (refine wp_gpush 74 3 (.int .i64 0) 1 8 Tryd.underlying74 infoInt8 rfl (by decide) (by decide) rfl _ _ rfl W3.heap.size _ T.length (T.map intV) rfl HN8.out.row 1 1 #[.int .i64 n] rfl rfl (by simp [Value.oneCell']) hT60.out HN8.out.base_le ?_; intro v2 w9 hP; have HC9 := Lib.hid (HN8.out.cur_pushed hP hgp.out hbase.out); have HX9 := Lib.hid (HX8.out.grown hP.grown hxo.out))
                      | fail)
                    try simp only [Act.put, List.setIfInBounds_toArray, List.set_cons_zero, List.set_cons_succ]
                    clear c5 x5 d1 d2 d3 d4 hw9
                    have x0 := HX9.out.cell 0; have x1 := HX9.out.cell 1; have x2 := HX9.out.cell 2; have x3 := HX9.out.cell 3; have x4 := HX9.out.cell 4; have x5 := HX9.out.cell 5; have x6 := HX9.out.cell 6
                    have c0 := HC9.out.1.cell 0; have f0 := HC9.out.1.frozen 0; have c1 := HC9.out.1.cell 1; have f1 := HC9.out.1.frozen 1; have c2 := HC9.out.1.cell 2; have f2 := HC9.out.1.frozen 2; have c3 := HC9.out.1.cell 3; have f3 := HC9.out.1.frozen 3; have c4 := HC9.out.1.cell 4; have f4 := HC9.out.1.frozen 4; have c5 := HC9.out.1.cell 5; have f5 := HC9.out.1.frozen 5; have c6 := HC9.out.1.cell 6; have f6 := HC9.out.1.frozen 6
                    go_wp2_with fail
                    have hwk : wrap64 ((k : Int) + 1) = ((k + 1 : Nat) : Int) := by rw [Int.natCast_add]; exact wrap64_in _ ⟨by omega, by have := hklH.out; have := h60H.out; omega⟩
                    rw [hwk]
                    refine ⟨⟨k + 1, ntop, x, nseen, T ++ [n], hklH.out, rfl, ?_, ?_⟩, by have := hklH.out; simp [intOf]; omega⟩
                    · rw [List.length_append]
                      exact Nat.succ_le_succ hTl.out
                    · refine ⟨blk7_put HC9.out.1 _ _ _ _ _ _ _, blk_other7 HC9.out.2.1 (Nat.ne_of_gt hgp.out) _ _ _ _ _ _ _, below_set7 HC9.out.2.2.1 (Nat.le_refl _) _ _ _ _ _ _ _, ?_, hvvH.out, hsrH.out, hstT.out, ?_⟩
                      · rw [List.length_append, List.map_append]
                        have hlt : w.heap.size < W3.heap.size := Nat.lt_trans hgp.out hbase.out
                        exact ownsRow_set (ownsRow_set (ownsRow_set (ownsRow_set (ownsRow_set (ownsRow_set (ownsRow_set hP.row hlt) hlt) hlt) hlt) hlt) hlt) hlt
                      · simp only [World.size_setCell]
                        exact HC9.out.2.2.2
              · have hf2 : freshP ⟨id, role, side, key, sent, ctop, cseen⟩ n = false := by simpa using hf
                have HRy := Lib.hid (HRx.out.2 hf2)
                unfold noSes noT at HRy
                dsimp only at HRy
                clear HRx hf hf2
                go_wp2_with (first | (go_at_call 19; refine (HRy.out _ HN6.out.bel).mono ?_; rintro e w7 ⟨rfl, hB⟩; have HN7 := Lib.hid (HN6.out.below hB); clear hB) | fail)
                have hwk : wrap64 ((k : Int) + 1) = ((k + 1 : Nat) : Int) := by rw [Int.natCast_add]; exact wrap64_in _ ⟨by omega, by have := hklH.out; have := h60H.out; omega⟩
                rw [hwk]
                exact ⟨⟨k + 1, ctop, x, cseen, T, hklH.out, rfl, Nat.le_succ_of_le hTl.out, HN7.out.alloc _⟩, by have := hklH.out; simp [intOf]; omega⟩
            · obtain rfl : k = l.length := by omega
              have dk : decide (l.length < l.length) = false := decide_eq_false (Nat.lt_irrefl _)
              go_wp2_with fail
              go_ret
              exact ⟨rfl, HN.out.bel⟩
        · have dL : decide ((60 : Int) < (l.length : Int)) = false := decide_eq_false (by omega)
          have dK : decide ((100 : Int) < (s.key.size : Int)) = false := decide_eq_false (by omega)
          have HV : Hid (∀ wx, Below w.heap.size w wx → Calls Tryd.prog 21 #[sesV s] wx fun e w' => e = .returned (.bool true) ∧ Below wx.heap.size wx w') := fun wx _ => by have h := valid_any wx s (hs (by omega)); rw [z2] at h; exact h
          have dT : decide ((1048576 : Int) < s.top) = true := decide_eq_true (by omega)
          clear hs z0 z1 z2 z3
          obtain ⟨id, role, side, key, sent, top, seen⟩ := s
          unfold sesV sesC at HV ⊢
          dsimp only at HV dK dT ⊢
          go_enter Tryd.func8, Tryd.ntmps8
          go_wp2_with (first | (have hmk := HB1; clear hmk; go_at_call 21; refine (HV.out _ HB1.out).mono ?_; rintro e w2 ⟨rfl, hB⟩; have HS2 := Lib.hid (HS1.out.below hB HS1.out.lt); have HB2 := Lib.hid (HB1.out.trans (hB.mono HB1.out.size)); have d0 := HS2.out.cell 0; have d1 := HS2.out.cell 1; have d2 := HS2.out.cell 2; have d3 := HS2.out.cell 3; have d4 := HS2.out.cell 4; have d5 := HS2.out.cell 5; have d6 := HS2.out.cell 6; clear hB) | (go_at_call 10; refine (HSA.out _ ((Below.refl w.heap.size w).alloc (Nat.le_refl _) _)).mono ?_; rintro e w1 ⟨rfl, hB⟩; have HS1 := Lib.hid ((Blk.new w 32 #[.int .i64 id, .int .i64 role, .int .i64 side, .string key, .int .i64 sent, .int .i64 top, .int .u64 (seen : Int)]).below hB (by rw [World.size_alloc]; exact Nat.lt_succ_self _)); have HB1 := Lib.hid (((Below.refl w.heap.size w).alloc (Nat.le_refl _) (.cells #[.int .i64 id, .int .i64 role, .int .i64 side, .string key, .int .i64 sent, .int .i64 top, .int .u64 (seen : Int)] 32)).trans (hB.mono (by rw [World.size_alloc]; exact Nat.le_succ _))); have c0 := HS1.out.cell 0; have c1 := HS1.out.cell 1; have c2 := HS1.out.cell 2; have c3 := HS1.out.cell 3; have c4 := HS1.out.cell 4; have c5 := HS1.out.cell 5; have c6 := HS1.out.cell 6; clear hB) | fail)
          go_ret
          exact ⟨rfl, HB2.out⟩
      · have dL : decide ((60 : Int) < (l.length : Int)) = false := decide_eq_false (by omega)
        have dK : decide ((100 : Int) < (s.key.size : Int)) = false := decide_eq_false (by omega)
        have HV : Hid (∀ wx, Below w.heap.size w wx → Calls Tryd.prog 21 #[sesV s] wx fun e w' => e = .returned (.bool false) ∧ Below wx.heap.size wx w') := fun wx _ => by have h := valid_any wx s (hs (by omega)); rw [show validP s = false by simpa using z2] at h; exact h
        clear hs z0 z1 z2
        obtain ⟨id, role, side, key, sent, top, seen⟩ := s
        unfold sesV sesC at HV ⊢
        dsimp only at HV dK ⊢
        go_enter Tryd.func8, Tryd.ntmps8
        go_wp2_with (first | (have hmk := HB1; clear hmk; go_at_call 21; refine (HV.out _ HB1.out).mono ?_; rintro e w2 ⟨rfl, hB⟩; have HS2 := Lib.hid (HS1.out.below hB HS1.out.lt); have HB2 := Lib.hid (HB1.out.trans (hB.mono HB1.out.size)); have d0 := HS2.out.cell 0; have d1 := HS2.out.cell 1; have d2 := HS2.out.cell 2; have d3 := HS2.out.cell 3; have d4 := HS2.out.cell 4; have d5 := HS2.out.cell 5; have d6 := HS2.out.cell 6; clear hB) | (go_at_call 10; refine (HSA.out _ ((Below.refl w.heap.size w).alloc (Nat.le_refl _) _)).mono ?_; rintro e w1 ⟨rfl, hB⟩; have HS1 := Lib.hid ((Blk.new w 32 #[.int .i64 id, .int .i64 role, .int .i64 side, .string key, .int .i64 sent, .int .i64 top, .int .u64 (seen : Int)]).below hB (by rw [World.size_alloc]; exact Nat.lt_succ_self _)); have HB1 := Lib.hid (((Below.refl w.heap.size w).alloc (Nat.le_refl _) (.cells #[.int .i64 id, .int .i64 role, .int .i64 side, .string key, .int .i64 sent, .int .i64 top, .int .u64 (seen : Int)] 32)).trans (hB.mono (by rw [World.size_alloc]; exact Nat.le_succ _))); have c0 := HS1.out.cell 0; have c1 := HS1.out.cell 1; have c2 := HS1.out.cell 2; have c3 := HS1.out.cell 3; have c4 := HS1.out.cell 4; have c5 := HS1.out.cell 5; have c6 := HS1.out.cell 6; clear hB) | fail)
        go_ret
        exact ⟨rfl, HB2.out⟩
    · have dL : decide ((60 : Int) < (l.length : Int)) = false := decide_eq_false (by omega)
      have dK : decide ((100 : Int) < (s.key.size : Int)) = true := decide_eq_true (by omega)
      clear hs z0 z1
      obtain ⟨id, role, side, key, sent, top, seen⟩ := s
      unfold sesV sesC
      dsimp only at dK ⊢
      go_enter Tryd.func8, Tryd.ntmps8
      go_wp2_with (first | (go_at_call 10; refine (HSA.out _ ((Below.refl w.heap.size w).alloc (Nat.le_refl _) _)).mono ?_; rintro e w1 ⟨rfl, hB⟩; have HS1 := Lib.hid ((Blk.new w 32 #[.int .i64 id, .int .i64 role, .int .i64 side, .string key, .int .i64 sent, .int .i64 top, .int .u64 (seen : Int)]).below hB (by rw [World.size_alloc]; exact Nat.lt_succ_self _)); have HB1 := Lib.hid (((Below.refl w.heap.size w).alloc (Nat.le_refl _) (.cells #[.int .i64 id, .int .i64 role, .int .i64 side, .string key, .int .i64 sent, .int .i64 top, .int .u64 (seen : Int)] 32)).trans (hB.mono (by rw [World.size_alloc]; exact Nat.le_succ _))); have c0 := HS1.out.cell 0; have c1 := HS1.out.cell 1; have c2 := HS1.out.cell 2; have c3 := HS1.out.cell 3; have c4 := HS1.out.cell 4; have c5 := HS1.out.cell 5; have c6 := HS1.out.cell 6; clear hB) | fail)
      go_ret
      exact ⟨rfl, HB1.out⟩
  · have dL : decide ((60 : Int) < (l.length : Int)) = true := decide_eq_true (by omega)
    clear hs z0
    obtain ⟨id, role, side, key, sent, top, seen⟩ := s
    unfold sesV sesC
    dsimp only at ⊢
    go_enter Tryd.func8, Tryd.ntmps8
    go_wp2_with (first | (go_at_call 10; refine (HSA.out _ ((Below.refl w.heap.size w).alloc (Nat.le_refl _) _)).mono ?_; rintro e w1 ⟨rfl, hB⟩; have HS1 := Lib.hid ((Blk.new w 32 #[.int .i64 id, .int .i64 role, .int .i64 side, .string key, .int .i64 sent, .int .i64 top, .int .u64 (seen : Int)]).below hB (by rw [World.size_alloc]; exact Nat.lt_succ_self _)); have HB1 := Lib.hid (((Below.refl w.heap.size w).alloc (Nat.le_refl _) (.cells #[.int .i64 id, .int .i64 role, .int .i64 side, .string key, .int .i64 sent, .int .i64 top, .int .u64 (seen : Int)] 32)).trans (hB.mono (by rw [World.size_alloc]; exact Nat.le_succ _))); have c0 := HS1.out.cell 0; have c1 := HS1.out.cell 1; have c2 := HS1.out.cell 2; have c3 := HS1.out.cell 3; have c4 := HS1.out.cell 4; have c5 := HS1.out.cell 5; have c6 := HS1.out.cell 6; clear hB) | fail)
    go_ret
    exact ⟨rfl, HB1.out⟩
end Go.Proofs.YtbhagfdkipgggaaDoor
