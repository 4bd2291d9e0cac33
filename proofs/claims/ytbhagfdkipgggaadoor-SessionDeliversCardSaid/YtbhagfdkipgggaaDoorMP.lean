/-
  Layer 29 (session): the examples of the documentation in plain words.
  Layer 29 (session): the examples of the documentation, one by one.
  Layer 29 (session): the texts of the examples.
  Layer 29 (session): a handshake (meet).
-/
import Derived.Test.YtbhagfdkipgggaaDoorMO
import Derived.Deep.OwnRows
namespace Go.Proofs.YtbhagfdkipgggaaDoor
/-- n bytes, each one more than the one ahead of it. -/
def textL (n : Nat) (c : UInt8) : List UInt8 := (List.range n).map fun i => c + UInt8.ofNat i
def sanK : ByteArray := txt (textL 32 1)
def sanA : ByteArray := txt (textL 16 65)
def sanB : ByteArray := txt (textL 16 97)
def sanKey : ByteArray := txt (skeyL (bl sanK) 2 7 sanA sanB)
def sanHost : Ses := ⟨7, 2, 1, sanKey, 0, 0, 0⟩
def sanMod : Ses := ⟨7, 2, 2, sanKey, 0, 0, 0⟩
def sanFirst : ByteArray := ⟨#[102, 105, 114, 115, 116]⟩
def sanSecond : ByteArray := ⟨#[115, 101, 99, 111, 110, 100]⟩
set_option maxRecDepth 1000000 in
theorem san_auth : (openP sanHost ⟨7, 1, sealP sanHost sanFirst⟩).2 = 8 := by kernel_rfl
end Go.Proofs.YtbhagfdkipgggaaDoor
namespace Go.Proofs.YtbhagfdkipgggaaDoor
theorem pick_pos {α : Type} {c : Prop} [Decidable c] {a b r : α} (h : c) (h2 : a = r) : (if c then a else b) = r := (if_pos h).trans h2
theorem pick_neg {α : Type} {c : Prop} [Decidable c] {a b r : α} (h : ¬ c) (h2 : b = r) : (if c then a else b) = r := (if_neg h).trans h2
def sanHel : Hel := ⟨2, sanA, txt (helloL (bl sanK) 2 (bl sanA))⟩
def sanWel : Wel := ⟨7, sanB, txt (welcomeL (skeyL (bl sanK) 2 7 sanA sanB))⟩
theorem san_opens : Opens sanK 2 sanA := by unfold Opens; exact ⟨rfl, by decide, by decide, rfl⟩
theorem san_start (side : Int) : startP sanK sanHel 7 side sanB = (⟨7, 2, side, sanKey, 0, 0, 0⟩, txt (welcomeL (skeyL (bl sanK) 2 7 sanA sanB)), 0) := by
  unfold startP
  rw [if_pos ⟨san_opens, by decide, by decide, rfl⟩]
  rfl
theorem san_greet : greetP sanK 2 sanA = (sanHel, 0) := by unfold greetP; rw [if_pos san_opens]; rfl
theorem san_accept : acceptP sanK sanHel 7 sanB = (sanMod, sanWel, 0) := by
  unfold acceptP
  rw [san_start]
  dsimp only
  exact (if_pos rfl).trans (if_pos rfl)
theorem san_join : joinP sanK sanHel sanWel = (sanHost, 0) := by
  unfold joinP
  rw [show sanWel.sess = 7 from rfl, show sanWel.nonce = sanB from rfl, san_start]
  dsimp only
  exact (if_pos rfl).trans (if_pos rfl)
theorem san_greet4 : greetP sanK 4 sanA = (noHel, 1) := by
  unfold greetP
  rw [if_neg (fun h => absurd h.2.2.1 (by decide))]
theorem sanKey_size : sanKey.size = 32 := by
  unfold sanKey
  rw [txt_size]
  exact macL_len _ _
def ses1 (K : ByteArray) (side sent top : Int) (seen : Nat) : Ses := ⟨7, 2, side, K, sent, top, seen⟩
theorem val1 {K : ByteArray} (hK : K.size = 32) (side sent top : Int) (seen : Nat) : validP (ses1 K side sent top seen) = (decide (side = 1 ∨ side = 2) && decide (0 ≤ sent ∧ sent ≤ 4294967296 ∧ 0 ≤ top ∧ top ≤ 4294967296) &&
    (if top = 0 then decide (seen = 0) else (decide (64 ≤ top) || decide (seen / 2 ^ top.toNat = 0)) && decide (seen % 2 = 1))) := by
  unfold validP ses1
  dsimp only
  rw [hK, decide_eq_true (show (1 : Int) ≤ 7 ∧ (7 : Int) ≤ 64 ∧ (1 : Int) ≤ 2 ∧ (2 : Int) ≤ 3 by decide), Bool.true_and]
  simp only [and_true]
theorem fq2 (K : ByteArray) : freshP (ses1 K 2 0 0 0) 2 = true := by kernel_rfl
theorem fq1 (K : ByteArray) : freshP (ses1 K 2 0 2 1) 1 = true := by kernel_rfl
theorem fr3 (K : ByteArray) : freshP (ses1 K 2 0 2 3) 3 = true := by kernel_rfl
theorem fr1 (K : ByteArray) : freshP (ses1 K 2 0 2 3) 1 = false := by kernel_rfl
theorem mq2 (K : ByteArray) : markP (ses1 K 2 0 0 0) 2 = ses1 K 2 0 2 1 := by kernel_rfl
theorem mq1 (K : ByteArray) : markP (ses1 K 2 0 2 1) 1 = ses1 K 2 0 2 3 := by kernel_rfl
section
variable {K : ByteArray} (hK : K.size = 32)
include hK
theorem v00 : validP (ses1 K 1 0 0 0) = true := by rw [val1 hK]; rfl
theorem v10 : validP (ses1 K 1 1 0 0) = true := by rw [val1 hK]; rfl
theorem w00 : validP (ses1 K 2 0 0 0) = true := by rw [val1 hK]; rfl
theorem w21 : validP (ses1 K 2 0 2 1) = true := by rw [val1 hK]; rfl
theorem w23 : validP (ses1 K 2 0 2 3) = true := by rw [val1 hK]; rfl
theorem sn1 (t : ByteArray) : sendP (ses1 K 1 0 0 0) t = (ses1 K 1 1 0 0, ⟨7, 1, sealP (ses1 K 1 0 0 0) t⟩, 0) := by
  unfold sendP
  rw [if_pos (v00 hK)]
  exact pick_neg (show ¬ ((0 : Int) = 4294967296) by decide) rfl
theorem sn2 (t : ByteArray) : sendP (ses1 K 1 1 0 0) t = (ses1 K 1 2 0 0, ⟨7, 2, sealP (ses1 K 1 1 0 0) t⟩, 0) := by
  unfold sendP
  rw [if_pos (v10 hK)]
  exact pick_neg (show ¬ ((1 : Int) = 4294967296) by decide) rfl
theorem rc2 (t : ByteArray) : receiveP (ses1 K 2 0 0 0) ⟨7, 2, sealP (ses1 K 1 1 0 0) t⟩ = (ses1 K 2 0 2 1, t, 0) := by
  have ho : openP (ses1 K 2 0 0 0) ⟨7, 2, sealP (ses1 K 1 1 0 0) t⟩ = (bl t, 0) := by
    unfold openP sealP
    dsimp only [ses1]
    rw [bl_txt]
    exact open_seal _ _ _
  unfold receiveP
  rw [if_pos (w00 hK), ho]
  exact pick_pos rfl (pick_pos (fq2 K) (pick_pos rfl (by dsimp only; rw [mq2, txt_bl])))
theorem rc1 (t : ByteArray) : receiveP (ses1 K 2 0 2 1) ⟨7, 1, sealP (ses1 K 1 0 0 0) t⟩ = (ses1 K 2 0 2 3, t, 0) := by
  have ho : openP (ses1 K 2 0 2 1) ⟨7, 1, sealP (ses1 K 1 0 0 0) t⟩ = (bl t, 0) := by
    unfold openP sealP
    dsimp only [ses1]
    rw [bl_txt]
    exact open_seal _ _ _
  unfold receiveP
  rw [if_pos (w21 hK), ho]
  exact pick_pos rfl (pick_pos (fq1 K) (pick_pos rfl (by dsimp only; rw [mq1, txt_bl])))
theorem rc1' (t : ByteArray) : receiveP (ses1 K 2 0 2 3) ⟨7, 1, t⟩ = (noSes, noT, 17) := by
  unfold receiveP
  rw [if_pos (w23 hK)]
  refine pick_pos rfl (pick_neg (show ¬ (freshP (ses1 K 2 0 2 3) 1 = true) by rw [fr1]; decide) rfl)
theorem pt1 : putP [] (ses1 K 2 0 2 3) = ([ses1 K 2 0 2 3], 0) := by unfold putP; rw [if_pos (w23 hK)]; rfl
end
theorem rch : receiveP sanHost ⟨7, 1, sealP sanHost sanFirst⟩ = (noSes, noT, 8) := by
  have hv : validP sanHost = true := v00 sanKey_size
  have hf : freshP sanHost 1 = true := rfl
  unfold receiveP
  rw [if_pos hv, san_auth]
  exact pick_pos rfl (pick_pos hf (pick_neg (show ¬ ((8 : Nat) = 0) by decide) rfl))
def sanP : Ses := ⟨0, 0, 0, noT, 0, 3, 7⟩
theorem mk2 : markP ⟨0, 0, 0, noT, 0, 3, 5⟩ 2 = sanP := rfl
theorem mk70 : markP sanP 70 = ⟨0, 0, 0, noT, 0, 70, 1⟩ := rfl
theorem vp : validP sanP = false := rfl
theorem fd7 (K : ByteArray) : findP [ses1 K 2 0 2 3] 7 = (ses1 K 2 0 2 3, 0) := rfl
theorem rm7 (K : ByteArray) : removeP [ses1 K 2 0 2 3] 7 = ([], 0) := rfl
theorem fre (K : ByteArray) : freeP [ses1 K 2 0 2 3] = (1, 0) := rfl
end Go.Proofs.YtbhagfdkipgggaaDoor
namespace Go.Proofs.YtbhagfdkipgggaaDoor
open Go.RowKit Go.Shelf
attribute [local go_sem] Oper.semAt_some
theorem textL_len (n : Nat) (c : UInt8) : (textL n c).length = n := by unfold textL; simp
theorem infoByte : (Tryd.prog.info? 5).map (fun i => (i.zero, i.size, i.bytes)) = some (some (.int .u8 0), 1, 1) := by kernel_rfl
/-- The byte that lies at a place. -/
def tbyte (c k : Nat) : Int := ((c : Int) + (k : Int)) % 256
/-- The first k bytes written. -/
def TextRow (W : World) (g c N k : Nat) : Prop := ∃ cs : Array Value, Blk W g 5 cs ∧ cs.size = N ∧ ∀ j, j < N → cs[j]? = some (if j < k then .int .u8 (tbyte c j) else .int .u8 0)
theorem textRow_set {W : World} {g c N k : Nat} (h : TextRow W g c N k) (hk : k < N) : TextRow (W.setCell ⟨g, k, none⟩ (.int .u8 (tbyte c k))) g c N (k + 1) := by
  obtain ⟨cs, h1, h2, h3⟩ := h
  refine ⟨_, h1.set_ k _, by simp [h2], fun j hj => ?_⟩
  rw [Array.getElem?_setIfInBounds]
  by_cases e : k = j
  · subst e
    rw [if_pos rfl, if_pos (by omega), if_pos (by omega)]
  · rw [if_neg e, h3 j hj]
    by_cases e2 : j < k
    · rw [if_pos e2, if_pos (by omega)]
    · rw [if_neg e2, if_neg (by omega)]
theorem textRow_conv {W : World} {g N cap : Nat} {c : UInt8} (h : TextRow W g c.toNat N N) : (convert 65 9 (.slice (some ⟨g, 0, none⟩) N cap)).run Tryd.prog W = .ok (.string (txt (textL N c))) W := by
  obtain ⟨cs, h1, h2, h3⟩ := h
  have hc := run_convert_bytes_back (P := Tryd.prog) W 65 9 5 ⟨g, 0, none⟩ cap (textL N c) Tryd.underlying65 Tryd.underlying5 Tryd.underlying9 (fun j hj => by
    have hj' : j < N := by rw [textL_len] at hj; exact hj
    have e := h3 j hj'
    rw [if_pos hj'] at e
    rw [Addr.add_lit, Nat.zero_add, h1.cell j, e]
    have e2 : ((textL N c)[j]'hj).toNat = (c.toNat + j) % 256 := by
      have e3 : (textL N c)[j]? = some (c + UInt8.ofNat j) := by
        unfold textL
        rw [List.getElem?_map, List.getElem?_range hj']
        rfl
      rw [(List.getElem?_eq_some_iff.1 e3).2, UInt8.toNat_add, UInt8.toNat_ofNat']
      omega
    rw [e2]
    unfold tbyte
    rw [Int.natCast_emod, Int.natCast_add]
    rfl)
  rw [textL_len] at hc
  exact hc
set_option maxRecDepth 100000 in
set_option maxHeartbeats 1600000 in
theorem text_any (w : World) (N : Nat) (c : UInt8) (hN : N ≤ 100) :
    Calls Tryd.prog 37 #[.int .i64 N, .int .u8 (c.toNat : Int)] w fun e w' => e = .returned (.string (txt (textL N c))) ∧ Below w.heap.size w w' := by
  have k1 : ∀ wx, (Instr.makeSlice 65 (.int .i64 N) (.int .i64 N)).run Tryd.prog wx = .ok (.slice (some ⟨wx.heap.size, 0, none⟩) N N) (wx.alloc (.cells (madeCells #[.int .u8 0] N) 5)) := fun wx => run_make_row' 65 5 (.int .u8 0) 1 Tryd.underlying65 infoByte rfl .i64 .i64 N (by omega) (by omega) wx
  have hcl := c.toNat_lt
  have hconv : ∀ {W : World} {g cap : Nat}, TextRow W g c.toNat N N → (convert 65 9 (.slice (some ⟨g, 0, none⟩) N cap)).run Tryd.prog W = .ok (.string (txt (textL N c))) W := fun h => textRow_conv h
  generalize txt (textL N c) = RES at *
  obtain ⟨f, hf⟩ : ∃ f, c.toNat = f := ⟨_, rfl⟩
  rw [hf] at hcl hconv ⊢
  clear hf
  have HC : Hid (∀ {W : World} {g cap : Nat}, TextRow W g f N N → (convert 65 9 (.slice (some ⟨g, 0, none⟩) N cap)).run Tryd.prog W = .ok (.string RES) W) := @hconv
  clear hconv
  go_enter Tryd.func37, Tryd.ntmps37
  go_wp2_with fail
  have hT0 : Hid (TextRow (w.alloc (.cells (madeCells #[.int .u8 0] N) 5)) w.heap.size f N 0) := by
    have hn := Blk.new w 5 (madeCells #[.int .u8 0] N)
    exact ⟨_, hn, by simp [madeCells], fun j hj => by simp [madeCells, hj, Nat.mod_one]⟩
  have hB0 : Below w.heap.size w (w.alloc (.cells (madeCells #[.int .u8 0] N) 5)) := (Below.refl _ w).alloc (Nat.le_refl _) _
  clear k1
  generalize (w.alloc (.cells (madeCells #[.int .u8 0] N) 5)) = w0 at *
  go_loopw [6] (fun i wr => ∃ k : Nat, k ≤ N ∧ i = .int .i64 k ∧ Hid (TextRow wr w.heap.size f N k) ∧ Hid (Below w.heap.size w wr)) (fun i _ => N - (intOf i).toNat)
  case atStart => exact ⟨0, Nat.zero_le _, rfl, hT0, hB0⟩
  case round =>
    obtain ⟨k, hk, rfl, hT, hB⟩ := hrel
    by_cases hkl : k < N
    · have hd : decide (k < N) = true := decide_eq_true hkl
      have hcx : wr.cell? ⟨w.heap.size, k, none⟩ = some (.int .u8 0) := by
        obtain ⟨cs, h1, h2, h3⟩ := hT.out
        rw [h1.cell k, h3 k hkl, if_neg (Nat.lt_irrefl k)]
      have hfz : wr.frozen? ⟨w.heap.size, k, none⟩ = false := by
        obtain ⟨cs, h1, h2, h3⟩ := hT.out
        exact h1.frozen k
      have hTn := Lib.hid (textRow_set hT.out hkl)
      have hBn : Hid (Below w.heap.size w (wr.setCell ⟨w.heap.size, k, none⟩ (.int .u8 (tbyte f k)))) := hB.out.setCell (p := ⟨w.heap.size, k, none⟩) (Nat.le_refl _) _
      go_wp2_with fail
      refine ⟨⟨k + 1, hkl, by go_num, hTn, hBn⟩, ?_⟩
      simp [intOf]
      omega
    · obtain rfl : k = N := by omega
      have hd : decide (k < k) = false := decide_eq_false (Nat.lt_irrefl k)
      have hcv2 := HC.out (cap := k) hT.out
      go_wp2_with fail
      go_ret
      exact ⟨rfl, hB.out⟩
end Go.Proofs.YtbhagfdkipgggaaDoor
namespace Go.Proofs.YtbhagfdkipgggaaDoor
open Go.RowKit Go.Shelf
attribute [local go_sem] Oper.semAt_some
theorem infoEnds : (Tryd.prog.info? 67).map (·.size) = some 15 := by kernel_rfl
theorem blk15_put {w : World} {g : Nat} {t : TypeId} {y0 y1 y2 y3 y4 y5 y6 y7 y8 y9 ya yb yc yd ye : Value} (h : Blk w g t #[y0, y1, y2, y3, y4, y5, y6, y7, y8, y9, ya, yb, yc, yd, ye]) (x0 x1 x2 x3 x4 x5 x6 x7 x8 x9 xa xb xc xd xe : Value) :
    Blk (((((((((((((((w.setCell ⟨g, 0, none⟩ x0).setCell ⟨g, 1, none⟩ x1).setCell ⟨g, 2, none⟩ x2).setCell ⟨g, 3, none⟩ x3).setCell ⟨g, 4, none⟩ x4).setCell ⟨g, 5, none⟩ x5).setCell ⟨g, 6, none⟩ x6).setCell ⟨g, 7, none⟩ x7).setCell ⟨g, 8, none⟩ x8).setCell ⟨g, 9, none⟩ x9).setCell ⟨g, 10, none⟩ xa).setCell ⟨g, 11, none⟩ xb).setCell ⟨g, 12, none⟩ xc).setCell ⟨g, 13, none⟩ xd).setCell ⟨g, 14, none⟩ xe) g t #[x0, x1, x2, x3, x4, x5, x6, x7, x8, x9, xa, xb, xc, xd, xe] := by
  have h1 := ((((((((((((((h.set_ 0 x0).set_ 1 x1).set_ 2 x2).set_ 3 x3).set_ 4 x4).set_ 5 x5).set_ 6 x6).set_ 7 x7).set_ 8 x8).set_ 9 x9).set_ 10 xa).set_ 11 xb).set_ 12 xc).set_ 13 xd).set_ 14 xe
  simpa only [List.setIfInBounds_toArray, List.set_cons_zero, List.set_cons_succ] using h1
theorem below_set15 {B : Nat} {a w : World} {g : Nat} (h : Below B a w) (hg : B ≤ g) (x0 x1 x2 x3 x4 x5 x6 x7 x8 x9 xa xb xc xd xe : Value) :
    Below B a (((((((((((((((w.setCell ⟨g, 0, none⟩ x0).setCell ⟨g, 1, none⟩ x1).setCell ⟨g, 2, none⟩ x2).setCell ⟨g, 3, none⟩ x3).setCell ⟨g, 4, none⟩ x4).setCell ⟨g, 5, none⟩ x5).setCell ⟨g, 6, none⟩ x6).setCell ⟨g, 7, none⟩ x7).setCell ⟨g, 8, none⟩ x8).setCell ⟨g, 9, none⟩ x9).setCell ⟨g, 10, none⟩ xa).setCell ⟨g, 11, none⟩ xb).setCell ⟨g, 12, none⟩ xc).setCell ⟨g, 13, none⟩ xd).setCell ⟨g, 14, none⟩ xe) :=
  (((((((((((((((h.setCell hg _).setCell hg _).setCell hg _).setCell hg _).setCell hg _).setCell hg _).setCell hg _).setCell hg _).setCell hg _).setCell hg _).setCell hg _).setCell hg _).setCell hg _).setCell hg _).setCell hg _)
def zEnds : Array Value := #[.int .i64 0, .int .i64 0, .int .i64 0, .string ⟨#[]⟩, .int .i64 0, .int .i64 0, .int .u64 0, .int .i64 0, .int .i64 0, .int .i64 0, .string ⟨#[]⟩, .int .i64 0, .int .i64 0, .int .u64 0, .bool false]
set_option maxRecDepth 100000 in
set_option maxHeartbeats 1600000 in
theorem meet_any (w : World) (s a b : ByteArray) (role id : Int) (H : Hel) (M C : Ses) (W : Wel) (hK : KAt w 1) (h1 : greetP s role a = (H, 0)) (h2 : acceptP s H id b = (M, W, 0)) (h3 : joinP s H W = (C, 0)) (_ht1 : H.tag.size < 100) (_ht2 : W.tag.size < 100) :
    Calls Tryd.prog 36 #[.string s, .int .i64 role, .int .i64 id, .string a, .string b] w fun e w' => e = .returned (.agg (sesC C ++ sesC M ++ [Value.bool true]).toArray) ∧ Below w.heap.size w w' := by
  have HG : Hid (∀ wx, Below w.heap.size w wx → Calls Tryd.prog 11 #[.string s, .int .i64 role, .string a] wx fun e w' => e = .returned (.tuple #[helV H, .int .i64 0]) ∧ Below wx.heap.size wx w') := fun wx hB => by have := greet_any wx s a role (hK.below hB); rw [h1] at this; exact this
  have HA : Hid (∀ wx, Below w.heap.size w wx → Calls Tryd.prog 13 #[.string s, helV H, .int .i64 id, .string b] wx fun e w' => e = .returned (.tuple #[sesV M, welV W, .int .i64 0]) ∧ Below wx.heap.size wx w') := fun wx hB => by have := accept_any wx s b H id (hK.below hB); rw [h2] at this; exact this
  have HJ : Hid (∀ wx, Below w.heap.size w wx → Calls Tryd.prog 15 #[.string s, helV H, welV W] wx fun e w' => e = .returned (.tuple #[sesV C, .int .i64 0]) ∧ Below wx.heap.size wx w') := fun wx hB => by have := joinS_any wx s H W (hK.below hB); rw [h3] at this; exact this
  clear h1 h2 h3 hK _ht1 _ht2
  obtain ⟨Hr, Hn, Ht⟩ := H
  obtain ⟨Wr, Wn, Wt⟩ := W
  obtain ⟨M0, M1, M2, M3, M4, M5, M6⟩ := M
  obtain ⟨C0, C1, C2, C3, C4, C5, C6⟩ := C
  unfold helV helC at HG HA HJ
  unfold welV welC sesV sesC at HA HJ
  unfold sesC
  dsimp only [List.cons_append, List.nil_append] at HG HA HJ ⊢
  have HB0 : Hid (Below w.heap.size w w) := Below.refl _ w
  go_enter Tryd.func36, Tryd.ntmps36
  go_upto_region 1 with fail
  refine world_is (P := fun W => Code.wp _ _ _ _ W) (fun Wa hWa => ?_)
  have HX0 : Hid (Blk Wa w.heap.size 67 zEnds) := by unfold Hid; rw [← hWa]; exact Blk.new w _ _
  have HB0 : Hid (Below w.heap.size w Wa) := by unfold Hid; rw [← hWa]; exact (Below.refl w.heap.size w).alloc (Nat.le_refl _) _
  clear hWa
  go_upto_region 2 with (first
    | (go_at_call 11; refine (HG.out _ HB0.out).mono ?_; rintro e w1 ⟨rfl, hB⟩; have HX1 := Lib.hid (HX0.out.below hB HX0.out.lt); have HB1 := Lib.hid (HB0.out.trans (hB.mono HB0.out.size)); clear hB)
    | fail)
  refine world_is (P := fun W => Code.wp _ _ _ _ W) (fun Wb hWb => ?_)
  have HX2 : Hid (Blk Wb w.heap.size 67 zEnds) := by unfold Hid; rw [← hWb]; exact HX1.out.alloc _
  have HH2 : Hid (Blk Wb w1.heap.size 23 #[.int .i64 Hr, .string Hn, .string Ht]) := by unfold Hid; rw [← hWb]; exact Blk.new w1 _ _
  have HB2 : Hid (Below w.heap.size w Wb) := by unfold Hid; rw [← hWb]; exact HB1.out.alloc HB1.out.size _
  have hgH : Hid (w.heap.size < w1.heap.size) := HX1.out.lt
  clear hWb HX1 HB1 HX0 HB0 HG
  generalize w1.heap.size = gH at *
  have c0 := HH2.out.cell 0
  have c1 := HH2.out.cell 1
  have c2 := HH2.out.cell 2
  go_upto_region 3 with (first
    | (go_at_call 13; refine (HA.out _ HB2.out).mono ?_; rintro e w2 ⟨rfl, hB⟩; have HX3 := Lib.hid (HX2.out.below hB HX2.out.lt); have HH3 := Lib.hid (HH2.out.below hB HH2.out.lt); have HB3 := Lib.hid (HB2.out.trans (hB.mono HB2.out.size)); have hgH2 : Hid (gH < w2.heap.size) := HH3.out.lt; clear hB)
    | fail)
  refine world_is (P := fun W => Code.wp _ _ _ _ W) (fun Wc hWc => ?_)
  have HX4 : Hid (Blk Wc w.heap.size 67 zEnds) := by unfold Hid; rw [← hWc]; exact (HX3.out.alloc _).alloc _
  have HH4 : Hid (Blk Wc gH 23 #[.int .i64 Hr, .string Hn, .string Ht]) := by unfold Hid; rw [← hWc]; exact (HH3.out.alloc _).alloc _
  have HM4 : Hid (Blk Wc w2.heap.size 32 #[.int .i64 M0, .int .i64 M1, .int .i64 M2, .string M3, .int .i64 M4, .int .i64 M5, .int .u64 (M6 : Int)]) := by unfold Hid; rw [← hWc]; exact (Blk.new w2 _ _).alloc _
  have HW4 : Hid (Blk Wc (w2.heap.size + 1) 25 #[.int .i64 Wr, .string Wn, .string Wt]) := by unfold Hid; rw [← hWc]; have := Blk.new (w2.alloc (.cells #[.int .i64 M0, .int .i64 M1, .int .i64 M2, .string M3, .int .i64 M4, .int .i64 M5, .int .u64 (M6 : Int)] 32)) 25 #[.int .i64 Wr, .string Wn, .string Wt]; rw [World.size_alloc] at this; exact this
  have HB4 : Hid (Below w.heap.size w Wc) := by unfold Hid; rw [← hWc]; exact (HB3.out.alloc HB3.out.size _).alloc (Nat.le_trans HB3.out.size (by rw [World.size_alloc]; exact Nat.le_succ _)) _
  have hMX : Hid (w.heap.size < w2.heap.size) := HX3.out.lt
  clear hWc HX3 HB3 HX2 HB2 HH2 HH3 HA hgH2
  generalize hgM : w2.heap.size = gM at *
  obtain ⟨gW, hgW⟩ : ∃ gW, gM + 1 = gW := ⟨_, rfl⟩
  rw [hgW] at HW4 ⊢
  clear hgM hgW w2 c0 c1 c2
  have c0 := HH4.out.cell 0
  have c1 := HH4.out.cell 1
  have c2 := HH4.out.cell 2
  have d0 := HW4.out.cell 0
  have d1 := HW4.out.cell 1
  have d2 := HW4.out.cell 2
  go_upto_region 4 with (first
    | (go_at_call 15; refine (HJ.out _ HB4.out).mono ?_; rintro e w3 ⟨rfl, hB⟩; have HX5 := Lib.hid (HX4.out.below hB HX4.out.lt); have HM5 := Lib.hid (HM4.out.below hB HM4.out.lt); have HB5 := Lib.hid (HB4.out.trans (hB.mono HB4.out.size)); clear hB)
    | fail)
  refine world_is (P := fun W => Code.wp _ _ _ _ W) (fun Wd hWd => ?_)
  have HX6 : Hid (Blk Wd w.heap.size 67 zEnds) := by unfold Hid; rw [← hWd]; exact HX5.out.alloc _
  have HM6 : Hid (Blk Wd gM 32 #[.int .i64 M0, .int .i64 M1, .int .i64 M2, .string M3, .int .i64 M4, .int .i64 M5, .int .u64 (M6 : Int)]) := by unfold Hid; rw [← hWd]; exact HM5.out.alloc _
  have HC6 : Hid (Blk Wd w3.heap.size 32 #[.int .i64 C0, .int .i64 C1, .int .i64 C2, .string C3, .int .i64 C4, .int .i64 C5, .int .u64 (C6 : Int)]) := by unfold Hid; rw [← hWd]; exact Blk.new w3 _ _
  have HB6 : Hid (Below w.heap.size w Wd) := by unfold Hid; rw [← hWd]; exact HB5.out.alloc HB5.out.size _
  have hCX : Hid (w.heap.size < w3.heap.size) := HX5.out.lt
  clear hWd HX4 HH4 HM4 HW4 HB4 HX5 HM5 HB5 HJ c0 c1 c2 d0 d1 d2
  generalize w3.heap.size = gC at *
  unfold zEnds at HX6
  have z0 := HX6.out.cell 0
  have z1 := HX6.out.cell 1
  have z2 := HX6.out.cell 2
  have z3 := HX6.out.cell 3
  have z4 := HX6.out.cell 4
  have z5 := HX6.out.cell 5
  have z6 := HX6.out.cell 6
  have z7 := HX6.out.cell 7
  have z8 := HX6.out.cell 8
  have z9 := HX6.out.cell 9
  have z10 := HX6.out.cell 10
  have z11 := HX6.out.cell 11
  have z12 := HX6.out.cell 12
  have z13 := HX6.out.cell 13
  have z14 := HX6.out.cell 14
  have f0 := HX6.out.frozen 0
  have f1 := HX6.out.frozen 1
  have f2 := HX6.out.frozen 2
  have f3 := HX6.out.frozen 3
  have f4 := HX6.out.frozen 4
  have f5 := HX6.out.frozen 5
  have f6 := HX6.out.frozen 6
  have f7 := HX6.out.frozen 7
  have f8 := HX6.out.frozen 8
  have f9 := HX6.out.frozen 9
  have f10 := HX6.out.frozen 10
  have f11 := HX6.out.frozen 11
  have f12 := HX6.out.frozen 12
  have f13 := HX6.out.frozen 13
  have f14 := HX6.out.frozen 14
  have m0 := HM6.out.cell 0
  have m1 := HM6.out.cell 1
  have m2 := HM6.out.cell 2
  have m3 := HM6.out.cell 3
  have m4 := HM6.out.cell 4
  have m5 := HM6.out.cell 5
  have m6 := HM6.out.cell 6
  have c0 := HC6.out.cell 0
  have c1 := HC6.out.cell 1
  have c2 := HC6.out.cell 2
  have c3 := HC6.out.cell 3
  have c4 := HC6.out.cell 4
  have c5 := HC6.out.cell 5
  have c6 := HC6.out.cell 6
  go_wp2_with fail
  exact bodyPost_ret (v := .agg #[.int .i64 C0, .int .i64 C1, .int .i64 C2, .string C3, .int .i64 C4, .int .i64 C5, .int .u64 (C6 : Int), .int .i64 M0, .int .i64 M1, .int .i64 M2, .string M3, .int .i64 M4, .int .i64 M5, .int .u64 (M6 : Int), .bool true]) (results_c (P := Tryd.prog) (p := 10) rfl _ _ w.heap.size 67 #[.int .i64 C0, .int .i64 C1, .int .i64 C2, .string C3, .int .i64 C4, .int .i64 C5, .int .u64 (C6 : Int), .int .i64 M0, .int .i64 M1, .int .i64 M2, .string M3, .int .i64 M4, .int .i64 M5, .int .u64 (M6 : Int), .bool true] _ rfl (blk15_put HX6.out _ _ _ _ _ _ _ _ _ _ _ _ _ _ _) Tryd.underlying67 rfl infoEnds) rfl ⟨rfl, below_set15 HB6.out (Nat.le_refl _) _ _ _ _ _ _ _ _ _ _ _ _ _ _ _⟩
end Go.Proofs.YtbhagfdkipgggaaDoor
