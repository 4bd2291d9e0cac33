/-
  Layer 46 (script): the law Canonical.
-/
import Derived.Test.YtldkfhimpkiigaaGreatDoorScrL1
import Derived.Test.YtldkfhimpkiigaaGreatDoorScrP9
namespace Go.Proofs.YtldkfhimpkiigaaGreatDoor
open Go.RowKit ScrP
attribute [local go_sem] Oper.semAt_some

theorem chk_in {s : Scr} (h : ChkOk s) : ScrIn s := by
  refine ⟨by have := h.nt; omega, by have := h.ns; omega, fun t ht => by have := h.txt t ht; omega, fun x hx => ?_⟩
  have b := stpB_of (h.stp x hx)
  refine ⟨?_, fun a ha => ?_, by have := b.nargs; omega, by have := b.text; omega⟩
  · have hk := b.kind
    unfold isKindB at hk
    simp only [Bool.and_eq_true, decide_eq_true_eq] at hk
    unfold InI
    omega
  · have := b.args a ha
    unfold InI
    omega
theorem parts_count (c : UInt8) (t : List UInt8) : (partsB c t).length ≤ t.length + 1 := by
  have h := parts_size c t
  generalize partsB c t = L at h
  have : ∀ L : List (List UInt8), L.length ≤ (L.map fun x => x.length + 1).sum := by
    intro L
    induction L with
    | nil => exact Nat.zero_le _
    | cons a L ih => simp only [List.length_cons, List.map_cons, List.sum_cons]; omega
  have := this L
  omega
theorem count32_le (t : ByteArray) : Lib.countB t ⟨#[32]⟩ ≤ t.size := by
  have h1 : (Lib.splitB ⟨#[32]⟩ 0 (Lib.countB t ⟨#[32]⟩) t).length = Lib.countB t ⟨#[32]⟩ + 1 := Lib.splitB_all ⟨#[32]⟩ (by decide) 0 _ t rfl
  have h2 : (Lib.splitB ⟨#[32]⟩ 0 (Lib.countB t ⟨#[32]⟩) t).map (fun x => x.data.toList) = partsB 32 t.data.toList := by
    rw [Lib.splitB_data ⟨#[32]⟩ 0 (Lib.countB t ⟨#[32]⟩) t]
    exact split_parts 32 _
  have h3 := congrArg List.length h2
  rw [List.length_map] at h3
  have h4 := parts_count 32 t.data.toList
  have h5 : t.data.toList.length = t.size := Array.length_toList
  omega
/-- A line, turned. -/
def spT (x : ByteArray) : ByteArray := ⟨(spaceL x.data.toList).toArray⟩
theorem spT_keep {x : ByteArray} (h : keepB x.data.toList = true) : spT x = x := by
  unfold spT spaceL
  rw [h]
  rfl
theorem spT_size (x : ByteArray) : (spT x).size ≤ 3 * x.size + 5 := by
  have h1 : (spT x).size = (spaceL x.data.toList).length := List.size_toArray
  have h2 : x.data.toList.length = x.size := Array.length_toList
  have h3 := dbl_len x.data.toList
  rw [h1]
  unfold spaceL
  split
  · omega
  · simp only [List.length_append, List.length_cons, List.length_nil]
    omega
theorem join_len_gen : ∀ ls : List (List UInt8), (Lib.join ls [10]).length ≤ (ls.map fun x => x.length + 1).sum
  | [] => Nat.zero_le _
  | [a] => by rw [Lib.join_one]; simp only [List.map_cons, List.map_nil, List.sum_cons, List.sum_nil]; omega
  | a :: b :: r => by
    have e : Lib.join (a :: b :: r) [10] = a ++ 10 :: Lib.join (b :: r) [10] := by simp [Lib.join, List.intercalate]
    have h := join_len_gen (b :: r)
    rw [e, List.map_cons, List.sum_cons, List.length_append, List.length_cons]
    omega
theorem spaced_len (LL : List ByteArray) : (Lib.join ((LL.map spT).map fun x => x.data.toList) [10]).length ≤ 6 * (LL.map fun x => x.size + 1).sum := by
  refine Nat.le_trans (join_len_gen _) ?_
  induction LL with
  | nil => exact Nat.zero_le _
  | cons a LL ih =>
    simp only [List.map_cons, List.sum_cons]
    have h1 := spT_size a
    have h2 : (spT a).data.toList.length = (spT a).size := Array.length_toList
    omega
theorem spT_list (LL : List ByteArray) : ((LL.map spT).map fun x => x.data.toList) = (bls LL).map spaceL := by
  unfold bls
  rw [List.map_map, List.map_map]
  rfl
/-- Join of a row that the call owns. -/
theorem join_own {w : World} {B n : Nat} {v : Value} {xs : List ByteArray} (h : w.ownsRow B 9 1 v n (strsC xs)) (hn : xs.length = n) (h0 : 0 < n) (hN : n ≤ 140737488355328) (hz : (Lib.join (xs.map (·.data.toList)) [10]).length ≤ 140737488355328) (u : ByteArray) (hu : u = ⟨(Lib.join (xs.map (·.data.toList)) [10]).toArray⟩) :
    Calls Tryz.prog 28 #[v, .string ⟨#[10]⟩] w fun e w' => e = .returned (.string u) ∧ Below w.heap.size w w' := by
  subst hu hn
  have hc := fun g hg => h.cells (g := g) hg
  have hlt := h.lt
  rcases h.2 with ⟨_, h1⟩ | ⟨g, cap, cur, rfl, _, _, hcap, _⟩
  · omega
  · exact Tryz.strings_Join g 0 cap xs ⟨#[10]⟩ w (fun j x hj => by
      have := hc g rfl j (.string x) (by unfold strsC; rw [List.getElem?_map, hj]; rfl)
      rw [Addr.add_lit] at this
      exact this) (hlt g rfl).2 hN hcap hz
theorem mem_le_sum' : ∀ {l : List Nat} {n : Nat}, n ∈ l → n ≤ l.sum
  | [], _, h => by cases h
  | a :: l, n, h => by
    rw [List.sum_cons]
    rcases List.mem_cons.1 h with rfl | h
    · omega
    · have := mem_le_sum' h
      omega
theorem own_em {w : World} {B k n : Nat} {e : TypeId} {v : Value} {xs : List Value} (_ : w.ownsRow B e k v n xs) : v.ownBlock = none ∨ v.ownBlock ≠ none := Classical.em _
theorem strs_take {NL : List ByteArray} {k : Nat} {z : ByteArray} (h : NL[k]? = some z) : strsC (NL.take (k + 1)) = strsC (NL.take k) ++ [.string z] := by
  rw [take_more h]
  unfold strsC
  rw [List.map_append]
  rfl
set_option maxRecDepth 100000 in
set_option maxHeartbeats 12800000 in
theorem canon_any (t : ByteArray) (w : World) (ht : t.size ≤ 140737488351232) (hK : KTab w) (hL : LibAt w)
    (hSan : ∀ W, Below w.heap.size w W → Calls Tryz.prog 10 #[] W fun e w' => e = .returned (.bool true) ∧ Below W.heap.size W w') :
    Calls Tryz.prog 7 #[.string t] w fun e w' => e = .returned (.bool true) ∧ Below w.heap.size w w' := by
  have HS := Lib.hid hSan
  have HK := Lib.hid hK
  have HL := Lib.hid hL
  have HPa := Lib.hid (fun W (hb : Below w.heap.size w W) t (hz : t.size ≤ 100000000) r (hr : parseS t.data.toList = r) => parse_at t W hz (hK.below hb) (hL.below hb) r hr)
  have htH := Lib.hid ht
  clear hSan hK hL ht
  by_cases hz : 5000 < t.size
  case pos =>
    have d1 : decide ((5000 : Int) < (t.size : Int)) = true := decide_eq_true (by omega)
    have d2 : (5000 : Int) < (t.size : Int) := by omega
    clear hz
    go_enter Tryz.func7, Tryz.ntmps7
    go_wp2_with fail
    refine (HS.out w (Below.refl _ _)).mono ?_
    rintro e w1 ⟨rfl, hb⟩
    have B1 := Lib.hid hb
    clear hb
    go_wp2_with fail
    go_ret
    exact ⟨rfl, B1.out⟩
  case neg =>
  have d1 : decide ((5000 : Int) < (t.size : Int)) = false := decide_eq_false (by omega)
  have d2 : ¬ (5000 : Int) < (t.size : Int) := by omega
  obtain ⟨R, hR⟩ : ∃ R, parseS t.data.toList = R := ⟨_, rfl⟩
  have HP := Lib.hid (HPa.out w (Below.refl _ _) t (by omega) R hR)
  have hval : (R.err = 0 ∧ (checkS R.scr).2 = 0) ∨ (R.err ≠ 0 ∧ R.scr = noScr) := by rw [← hR]; exact readL_valid _ _ _ _ _
  have hvalH := Lib.hid hval
  obtain ⟨q, hq⟩ : ∃ q : Int, (R.line : Int) = q := ⟨_, rfl⟩
  obtain ⟨E, hE⟩ : ∃ E, R.err = E := ⟨_, rfl⟩
  obtain ⟨s, hs⟩ : ∃ s, R.scr = s := ⟨_, rfl⟩
  rw [hE, hs] at hvalH
  rw [hq, hE, hs] at HP
  clear hz hR hq hE hval hs
  go_enter Tryz.func7, Tryz.ntmps7
  go_wp2_with fail
  refine HP.out.mono ?_
  rintro e w1 ⟨A, n, c, A', n', c', rfl, hsc, hb⟩
  have B1 := Lib.hid hb
  have S1 := Lib.hid hsc
  clear hb HP hsc
  go_upto_region 4 with fail
  refine world_is (P := fun W => Code.wp _ _ _ _ W) (fun W2 hW => ?_)
  have hb : Below w1.heap.size w1 W2 := by rw [← hW]; exact (Below.refl _ _).alloc (Nat.le_refl _) _
  have X2 : Hid (Blk W2 w1.heap.size 25 #[.slice A n c, .slice A' n' c']) := by unfold Hid; rw [← hW]; exact Blk.new _ _ _
  have B2 := Lib.hid (B1.out.trans (hb.mono B1.out.size))
  have S2 := Lib.hid ((S1.out.below hb).mono hb.size)
  obtain ⟨xa, hxa⟩ : ∃ g, w1.heap.size = g := ⟨_, rfl⟩
  rw [hxa] at X2
  try rw [hxa]
  clear hW B1 d1 d2 hb S1 hxa
  rcases hvalH.out with ⟨rfl, hck⟩ | ⟨hE0, rfl⟩
  case inr =>
    have d1 : (E != 0) = true := bne_iff_ne.2 hE0
    have d2 : ¬ E = 0 := hE0
    clear hE0 hvalH
    go_wp2_with fail
    refine (HS.out W2 B2.out).mono ?_
    rintro e w3 ⟨rfl, hb⟩
    have B3 := Lib.hid (B2.out.trans (hb.mono B2.out.size))
    have X3 := Lib.hid (X2.out.below hb X2.out.lt)
    have S3 := Lib.hid ((S2.out.below hb).mono hb.size)
    clear hb B2 X2 S2
    have x0 := X3.out.cell 0
    have x1 := X3.out.cell 1
    have hno : ScrIn noScr := ⟨Nat.zero_le _, Nat.zero_le _, (fun t ht => by cases ht), (fun x hx => by cases hx)⟩
    have HSm := rSame_any noScr noScr _ _ w3.heap.size w3 S3.out (scrAt_no w3 _) (Nat.le_refl _) hno hno
    rw [sameE_self] at HSm
    have HSmH := Lib.hid HSm
    clear HSm hno
    go_wp2_with fail
    refine HSmH.out.mono ?_
    rintro e w4 ⟨rfl, hb⟩
    have B4 := Lib.hid (B3.out.trans (hb.mono B3.out.size))
    clear hb
    go_wp2_with fail
    go_ret
    exact ⟨rfl, B4.out⟩
  case inl =>
  clear hvalH
  have ok := check_ok hck
  have hin := Lib.hid (chk_in ok)
  have hpl := printB_len ok
  have hps : printS s = (printB s, 0) := by unfold printS; rw [if_pos hck]
  have HPr := Print_any s _ W2.heap.size W2 S2.out (Nat.le_refl _) hin.out (HK.out.below B2.out) (HL.out.below B2.out)
  unfold PrintPost at HPr
  rw [hps] at HPr
  have HPrH := Lib.hid HPr
  have hckH := Lib.hid hck
  have hplH := Lib.hid hpl
  clear HPr ok hpl hps hck
  have x0 := X2.out.cell 0
  have x1 := X2.out.cell 1
  go_wp2_with fail
  refine HPrH.out.mono ?_
  rintro e w3 ⟨hb, p, rfl, hp⟩
  have hp : p.data.toList = printB s := hp
  have B3 := Lib.hid (B2.out.trans (hb.mono B2.out.size))
  have X3 := Lib.hid (X2.out.below hb X2.out.lt)
  have S3 := Lib.hid ((S2.out.below hb).mono hb.size)
  have hpz : p.size ≤ 5000000 := by
    have h1 := hplH.out
    rw [← hp] at h1
    have h2 : p.data.toList.length = p.size := Array.length_toList
    omega
  have HP2 := Lib.hid (HPa.out w3 B3.out p (by omega) ⟨s, 0, 0⟩ (by rw [hp]; exact parse_print hckH.out))
  have hpH := Lib.hid hp
  have hpzH := Lib.hid hpz
  clear hb B2 X2 S2 HPrH hplH x0 x1 hp hpz
  go_wp2_with fail
  refine HP2.out.mono ?_
  rintro e w4 ⟨A4, n4, c4, A4', n4', c4', rfl, hsc, hb⟩
  have B4 := Lib.hid (B3.out.trans (hb.mono B3.out.size))
  have X4 := Lib.hid (X3.out.below hb X3.out.lt)
  have S4 := Lib.hid ((S3.out.below hb).mono hb.size)
  have T4 := Lib.hid hsc
  clear hb hsc B3 X3 S3 HP2
  go_upto_region 8 with fail
  refine world_is (P := fun W => Code.wp _ _ _ _ W) (fun W5 hW => ?_)
  have hb : Below w4.heap.size w4 W5 := by rw [← hW]; exact (Below.refl _ _).alloc (Nat.le_refl _) _
  have Y5 : Hid (Blk W5 w4.heap.size 25 #[.slice A4 n4 c4, .slice A4' n4' c4']) := by unfold Hid; rw [← hW]; exact Blk.new _ _ _
  have B5 := Lib.hid (B4.out.trans (hb.mono B4.out.size))
  have X5 := Lib.hid (X4.out.below hb X4.out.lt)
  have S5 := Lib.hid ((S4.out.below hb).mono hb.size)
  have T5 := Lib.hid ((T4.out.below hb).mono hb.size)
  obtain ⟨ya, hya⟩ : ∃ g, w4.heap.size = g := ⟨_, rfl⟩
  rw [hya] at Y5
  try rw [hya]
  clear hW hb hya B4 X4 S4 T4
  obtain ⟨_, mx, hmx⟩ := (HL.out.below B5.out).mx
  have HSp := Lib.hid (Tryz.strings_Split p ⟨#[10]⟩ mx W5 (by have := hpzH.out; omega) hmx (by decide))
  have HI := linfo p
  have hll := lines_len p
  obtain ⟨LL, hLL⟩ : ∃ L, Lib.splitB ⟨#[10]⟩ 0 (Lib.countB p ⟨#[10]⟩) p = L := ⟨_, rfl⟩
  obtain ⟨K, hK⟩ : ∃ K, Lib.countB p ⟨#[10]⟩ + 1 = K := ⟨_, rfl⟩
  have hK0 : 0 < K := by omega
  rw [hK] at hll
  rw [hLL] at HI hll
  have HSp' := HSp.out
  rw [hLL, hK] at HSp'
  have HSpH := Lib.hid HSp'
  have HIH := Lib.hid HI
  have hllH := Lib.hid hll
  have hK8 : K ≤ 5000001 := by rw [← hll]; have := HI.len; have := hpzH.out; omega
  obtain ⟨lb, elb⟩ : ∃ g, W5.heap.size = g := ⟨_, rfl⟩
  have elbH := Lib.hid elb
  rw [elb] at HSpH
  clear hmx HSp HI hll hLL hK HSp' elb
  go_wp2_with fail
  refine HSpH.out.mono ?_
  rintro e w6 ⟨rfl, hw6⟩
  rw [hw6]
  clear HSpH hw6 w6
  go_wp2_with fail
  refine world_is (P := fun W => Code.wp _ _ _ _ W) (fun W6 hW => ?_)
  have hb : Below W5.heap.size W5 W6 := by rw [← hW]; exact (Below.refl _ _).alloc (Nat.le_refl _) _
  have LB6 : Hid (Blk W6 lb 9 (LL.map Value.string).toArray) := by unfold Hid; rw [← hW, ← elbH.out]; exact Blk.new _ _ _
  have B6 := Lib.hid (B5.out.trans (hb.mono B5.out.size))
  have X6 := Lib.hid (X5.out.below hb X5.out.lt)
  have Y6 := Lib.hid (Y5.out.below hb Y5.out.lt)
  have S6 := Lib.hid ((S5.out.below hb).mono hb.size)
  have T6 := Lib.hid ((T5.out.below hb).mono hb.size)
  clear hW hb B5 X5 Y5 S5 T5 elbH
  obtain ⟨NL, hNL⟩ : ∃ N, LL.map spT = N := ⟨_, rfl⟩
  have hNlen : Hid (NL.length = K) := by unfold Hid; rw [← hNL, List.length_map]; exact hllH.out
  have hNLH := Lib.hid hNL
  obtain ⟨B, hBB⟩ : ∃ g, W6.heap.size = g := ⟨_, rfl⟩
  have hlB : Hid (lb < B) := by unfold Hid; rw [← hBB]; exact LB6.out.lt
  have F6 := Lib.hid (Below.refl B W6)
  have hB6 : Hid (B ≤ W6.heap.size) := Nat.le_of_eq hBB.symm
  have hBw : Hid (W6.heap.size = B) := hBB
  obtain ⟨W7, hW7⟩ : ∃ W, W = W6 := ⟨_, rfl⟩
  have F7 : Hid (Below B W6 W7) := by unfold Hid; rw [hW7]; exact Below.refl _ _
  have hB7 : Hid (B ≤ W7.heap.size) := by unfold Hid; rw [hW7]; exact hB6.out
  rw [← hW7]
  clear hNL hBB F6 hB6 hW7
  go_loopw [11, 49] (fun v11 v49 wr => ∃ (k : Nat) (vn : Value), v49 = .int .i64 (k : Int) ∧ v11 = vn ∧ k ≤ K ∧ Hid (World.ownsRow wr B 9 1 vn k (strsC (NL.take k))) ∧ Hid (Below B W6 wr) ∧ Hid (B ≤ wr.heap.size)) (fun _ v49 _ => K - (intOf v49).toNat)
  case atStart => exact ⟨0, _, rfl, rfl, Nat.zero_le _, World.ownsRow_nil _ _ _ _, F7.out, hB7.out⟩
  case round =>
    obtain ⟨k, vn, rfl, rfl, hk, hR, hF, hB⟩ := hrel
    obtain ⟨w3, hw3⟩ : ∃ x, x = wr := ⟨_, rfl⟩
    subst hw3
    clear F7 hB7
    by_cases hlt : k < K
    case pos =>
      have d1 : decide (k < K) = true := decide_eq_true hlt
      have d2 : decide ((k : Int) < (K : Int)) = true := decide_eq_true (by omega)
      have k1 : (0 : Int) ≤ (k : Int) := by omega
      have k2 : (k : Int) < (K : Int) := by omega
      have hltH := Lib.hid hlt
      obtain ⟨x, hx⟩ : ∃ x, LL[k]? = some x := ⟨_, List.getElem?_eq_getElem (by rw [hllH.out]; exact hlt)⟩
      have hxs : Hid (x.size ≤ 5000001) := by
        unfold Hid
        have h1 := HIH.out.used
        have h2 := mem_le_sum' (List.mem_map.2 ⟨x, List.mem_of_getElem? hx, rfl⟩ : x.size + 1 ∈ LL.map fun x => x.size + 1)
        have := hpzH.out
        omega
      have hz0 : Hid (NL[k]? = some (spT x)) := by unfold Hid; rw [← hNLH.out, List.getElem?_map, hx]; rfl
      have LBk := Lib.hid (LB6.out.below (hF.out.mono (Nat.le_refl _)) hlB.out)
      have cx : w3.cell? ⟨lb, k, none⟩ = some (.string x) := by rw [LBk.out.cell k, List.getElem?_toArray, List.getElem?_map, hx]; rfl
      have HH := Lib.hid (Tryz.strings_HasPrefix x ⟨#[124]⟩ w3)
      obtain ⟨hp1, hhp⟩ : ∃ b, Lib.hasPrefix x.data.toList [124] = b := ⟨_, rfl⟩
      have hhpH := Lib.hid hhp
      have HH2 := HH.out
      rw [show (⟨#[124]⟩ : ByteArray).data.toList = [124] from rfl, hhp] at HH2
      have HHH := Lib.hid HH2
      clear HH HH2 hhp hlt hx
      go_wp2_with fail
      refine HHH.out.mono ?_
      rintro e w4 ⟨rfl, rfl⟩
      clear HHH cx k1 k2 d1 d2
      cases hp1
      case true =>
        obtain ⟨z, hzz⟩ : ∃ z, x = z := ⟨_, rfl⟩
        have hz : Hid (NL[k]? = some z) := by unfold Hid; rw [hz0.out, ← hzz]; exact congrArg some (spT_keep (by unfold keepB; rw [hhpH.out]; rfl))
        subst hzz
        have hlS : Hid (k + 1 ≤ 1000000000) := by unfold Hid; omega
        have ho1 : ∀ u ∈ (#[.string x] : Array Value).toList, u.oneCell' = true := fun u hu => by rw [List.mem_singleton.1 hu]; rfl
        obtain ⟨Av, Cv, rfl⟩ := own_slice hR.out
        go_upto_region 15 with (refine wp_gpush_list 22 9 (.string ⟨#[]⟩) 1 16 Tryz.underlying22 (by kernel_rfl) rfl (by decide) (by decide) rfl _ _ rfl B (.slice Av k Cv) k (strsC (NL.take k)) rfl hR.out 1 1 #[.string x] rfl rfl ho1 hlS.out hB.out ?_; intro v9 w9 hP9; obtain ⟨A9, C9, rfl⟩ := own_slice hP9.row)
        have R9 : Hid (World.ownsRow w9 B 9 1 (.slice A9 (k + 1) C9) (k + 1) (strsC (NL.take (k + 1)))) := by unfold Hid; rw [strs_take hz.out]; exact hP9.row
        have F9 : Hid (Below B W6 w9) := hP9.bel B W6 (Nat.le_refl _) hB.out hF.out
        have hB9 : Hid (B ≤ w9.heap.size) := Nat.le_trans hB.out hP9.grown.size
        clear hP9 hR hF hB ho1 hlS
        go_wp2_with fail
        go_roundw
        case rel => exact ⟨k + 1, _, by go_num, rfl, hltH.out, R9.out, F9.out, hB9.out⟩
        case measure => have := hltH.out; simp [intOf]; omega
      case false =>
        by_cases htx : x.data.toList = [116, 101, 120, 116]
        case pos =>
          have e1 : (x.toList == [116, 101, 120, 116]) = true := by rw [ByteArray.toList_eq, htx]; rfl
          have hz : Hid (NL[k]? = some x) := by unfold Hid; rw [hz0.out]; exact congrArg some (spT_keep (by unfold keepB; rw [decide_eq_true htx, Bool.or_true]))
          clear htx
          have hlS : Hid (k + 1 ≤ 1000000000) := by unfold Hid; omega
          have ho1 : ∀ u ∈ (#[.string x] : Array Value).toList, u.oneCell' = true := fun u hu => by rw [List.mem_singleton.1 hu]; rfl
          obtain ⟨Av, Cv, rfl⟩ := own_slice hR.out
          go_upto_region 15 with (refine wp_gpush_list 22 9 (.string ⟨#[]⟩) 1 16 Tryz.underlying22 (by kernel_rfl) rfl (by decide) (by decide) rfl _ _ rfl B (.slice Av k Cv) k (strsC (NL.take k)) rfl hR.out 1 1 #[.string x] rfl rfl ho1 hlS.out hB.out ?_; intro v9 w9 hP9; obtain ⟨A9, C9, rfl⟩ := own_slice hP9.row)
          have R9 : Hid (World.ownsRow w9 B 9 1 (.slice A9 (k + 1) C9) (k + 1) (strsC (NL.take (k + 1)))) := by unfold Hid; rw [strs_take hz.out]; exact hP9.row
          have F9 : Hid (Below B W6 w9) := hP9.bel B W6 (Nat.le_refl _) hB.out hF.out
          have hB9 : Hid (B ≤ w9.heap.size) := Nat.le_trans hB.out hP9.grown.size
          clear hP9 hR hF hB ho1 hlS
          go_wp2_with fail
          go_roundw
          case rel => exact ⟨k + 1, _, by go_num, rfl, hltH.out, R9.out, F9.out, hB9.out⟩
          case measure => have := hltH.out; simp [intOf]; omega
        case neg =>
          have e1 : (x.toList == [116, 101, 120, 116]) = false := by rw [ByteArray.toList_eq, beq_eq_false_iff_ne]; exact htx
          have hkeep : keepB x.data.toList = false := by unfold keepB; rw [hhpH.out, decide_eq_false htx]; rfl
          obtain ⟨_, mx, hmx⟩ := (HL.out.below (B6.out.trans ((hF.out.mono (Nat.le_of_eq hBw.out)).mono B6.out.size))).mx
          have hcnt := count32_le x
          have hxs2 := hxs.out
          have HR := Lib.hid (Tryz.strings_ReplaceAll x ⟨#[32]⟩ ⟨#[32, 32]⟩ mx w4 (by omega) hmx (by decide) (by
            have h3 : Lib.countB x ⟨#[32]⟩ * (⟨#[32, 32]⟩ : ByteArray).size ≤ 5000001 * 2 := Nat.mul_le_mul (by omega) (by decide)
            omega))
          obtain ⟨rr, hrr⟩ : ∃ r : ByteArray, (⟨(Lib.replaceAll x.data.toList (⟨#[32]⟩ : ByteArray).data.toList (⟨#[32, 32]⟩ : ByteArray).data.toList).toArray⟩ : ByteArray) = r := ⟨_, rfl⟩
          have HR2 := HR.out
          rw [hrr] at HR2
          have HRH := Lib.hid HR2
          have hrd : rr.data.toList = dblB x.data.toList := by rw [← hrr]; exact dbl_all _
          have hrz : rr.size ≤ 2 * x.size := by
            have h1 := dbl_len x.data.toList
            have h2 : x.data.toList.length = x.size := Array.length_toList
            have h3 : rr.data.toList.length = rr.size := Array.length_toList
            rw [hrd] at h3
            omega
          obtain ⟨y1, hY1, hy1⟩ : ∃ y : ByteArray, (∀ wx : World, (Op.stringOp .add ⟨#[32]⟩ rr).run Tryz.prog wx = .ok (.string y) wx) ∧ y = ⟨#[32]⟩ ++ rr := ⟨_, fun wx => run_string_add_sum wx _ _ (by show 1 + rr.size ≤ _; omega), rfl⟩
          have hy1z : y1.size = 1 + rr.size := by rw [hy1]; exact ByteArray.size_append
          obtain ⟨y2, hY2, hy2⟩ : ∃ y : ByteArray, (∀ wx : World, (Op.stringOp .add y1 ⟨#[32, 10, 35, 32]⟩).run Tryz.prog wx = .ok (.string y) wx) ∧ y = y1 ++ ⟨#[32, 10, 35, 32]⟩ := ⟨_, fun wx => run_string_add_sum wx _ _ (by show y1.size + 4 ≤ _; omega), rfl⟩
          have hy2z : y2.size = y1.size + 4 := by rw [hy2]; exact ByteArray.size_append
          obtain ⟨z, hY3, hy3⟩ : ∃ y : ByteArray, (∀ wx : World, (Op.stringOp .add y2 x).run Tryz.prog wx = .ok (.string y) wx) ∧ y = y2 ++ x := ⟨_, fun wx => run_string_add_sum wx _ _ (by omega), rfl⟩
          have hz : Hid (NL[k]? = some z) := by
            unfold Hid
            rw [hz0.out]
            refine congrArg some (ByteArray.ext (Array.ext' ?_))
            show spaceL x.data.toList = _
            unfold spaceL
            rw [hkeep, hy3, hy2, hy1, ByteArray.data_append, ByteArray.data_append, ByteArray.data_append, Array.toList_append, Array.toList_append, Array.toList_append, hrd]
            rfl
          clear htx hkeep hmx hcnt hxs2 HR HR2 hrr hrd hrz hy1 hy2 hy3 hy1z hy2z
          go_wp2_with fail
          refine HRH.out.mono ?_
          rintro e w5 ⟨rfl, hb⟩
          have hF5 := Lib.hid (hF.out.trans (hb.mono hB.out))
          have hR5 := Lib.hid (World.ownsRow.kept hR.out (hgrownB hb (Nat.le_refl _) none) (own_em hR.out))
          have hB5 := Lib.hid (Nat.le_trans hB.out hb.size)
          clear hb HRH hR hF hB LBk
          have hlS : Hid (k + 1 ≤ 1000000000) := by unfold Hid; omega
          have ho1 : ∀ u ∈ (#[.string z] : Array Value).toList, u.oneCell' = true := fun u hu => by rw [List.mem_singleton.1 hu]; rfl
          obtain ⟨Av, Cv, rfl⟩ := own_slice hR5.out
          go_upto_region 15 with (refine wp_gpush_list 22 9 (.string ⟨#[]⟩) 1 16 Tryz.underlying22 (by kernel_rfl) rfl (by decide) (by decide) rfl _ _ rfl B (.slice Av k Cv) k (strsC (NL.take k)) rfl hR5.out 1 1 #[.string z] rfl rfl ho1 hlS.out hB5.out ?_; intro v9 w9 hP9; obtain ⟨A9, C9, rfl⟩ := own_slice hP9.row)
          have R9 : Hid (World.ownsRow w9 B 9 1 (.slice A9 (k + 1) C9) (k + 1) (strsC (NL.take (k + 1)))) := by unfold Hid; rw [strs_take hz.out]; exact hP9.row
          have F9 : Hid (Below B W6 w9) := hP9.bel B W6 (Nat.le_refl _) hB5.out hF5.out
          have hB9 : Hid (B ≤ w9.heap.size) := Nat.le_trans hB5.out hP9.grown.size
          clear hP9 hR5 hF5 hB5 ho1 hlS
          go_wp2_with fail
          go_roundw
          case rel => exact ⟨k + 1, _, by go_num, rfl, hltH.out, R9.out, F9.out, hB9.out⟩
          case measure => have := hltH.out; simp [intOf]; omega
    case neg =>
      have d1 : decide (k < K) = false := decide_eq_false hlt
      have d2 : decide ((k : Int) < (K : Int)) = false := decide_eq_false (by omega)
      have hkK : k = K := by omega
      have hNk : NL.take k = NL := List.take_of_length_le (by rw [hNlen.out]; omega)
      have hjl : (Lib.join (NL.map fun x => x.data.toList) [10]).length ≤ 30000006 := by
        have h1 := spaced_len LL
        rw [hNLH.out] at h1
        have h2 := HIH.out.used
        have := hpzH.out
        omega
      obtain ⟨u, hu⟩ : ∃ u : ByteArray, u = ⟨(Lib.join (NL.map fun x => x.data.toList) [10]).toArray⟩ := ⟨_, rfl⟩
      have huz : u.size ≤ 100000000 := by rw [hu]; show (List.toArray _).size ≤ _; rw [List.size_toArray]; omega
      have hup : parseS u.data.toList = ⟨s, 0, 0⟩ := by
        rw [hu]
        show parseS (Lib.join (NL.map fun x => x.data.toList) [10]) = _
        rw [← hNLH.out, spT_list, HIH.out.bytes, hpH.out]
        exact parse_spaced hckH.out
      have hR2 := hR.out
      rw [hNk] at hR2
      have HJ := Lib.hid (join_own hR2 (by rw [hNlen.out, hkK]) (by omega) (by omega) (by omega) u hu)
      have hb6 : Below W6.heap.size W6 w3 := hF.out.mono (Nat.le_of_eq hBw.out)
      have B7 := Lib.hid (B6.out.trans (hb6.mono B6.out.size))
      have X7 := Lib.hid (X6.out.below hb6 X6.out.lt)
      have Y7 := Lib.hid (Y6.out.below hb6 Y6.out.lt)
      have S7 := Lib.hid ((S6.out.below hb6).mono hb6.size)
      have T7 := Lib.hid ((T6.out.below hb6).mono hb6.size)
      have huzH := Lib.hid huz
      have hupH := Lib.hid hup
      clear hkK hNk hjl hu huz hup hR2 hb6 hR hF hB B6 X6 Y6 S6 T6 LB6 hlt
      go_wp2_with fail
      refine HJ.out.mono ?_
      rintro e w8 ⟨rfl, hb⟩
      have B8 := Lib.hid (B7.out.trans (hb.mono B7.out.size))
      have X8 := Lib.hid (X7.out.below hb X7.out.lt)
      have Y8 := Lib.hid (Y7.out.below hb Y7.out.lt)
      have S8 := Lib.hid ((S7.out.below hb).mono hb.size)
      have T8 := Lib.hid ((T7.out.below hb).mono hb.size)
      have HP3 := Lib.hid (HPa.out w8 B8.out u huzH.out ⟨s, 0, 0⟩ hupH.out)
      clear hb B7 X7 Y7 S7 T7 HJ
      go_wp2_with fail
      refine HP3.out.mono ?_
      rintro e w9 ⟨A9, n9, c9, A9', n9', c9', rfl, hsc, hb⟩
      have B9 := Lib.hid (B8.out.trans (hb.mono B8.out.size))
      have X9 := Lib.hid (X8.out.below hb X8.out.lt)
      have Y9 := Lib.hid (Y8.out.below hb Y8.out.lt)
      have S9 := Lib.hid ((S8.out.below hb).mono hb.size)
      have T9 := Lib.hid ((T8.out.below hb).mono hb.size)
      have U9 := Lib.hid hsc
      clear hb hsc B8 X8 Y8 S8 T8 HP3
      go_upto_region 17 with fail
      refine world_is (P := fun W => Code.wp _ _ _ _ W) (fun Wa hW => ?_)
      have hb : Below w9.heap.size w9 Wa := by rw [← hW]; exact (Below.refl _ _).alloc (Nat.le_refl _) _
      have Z : Hid (Blk Wa w9.heap.size 25 #[.slice A9 n9 c9, .slice A9' n9' c9']) := by unfold Hid; rw [← hW]; exact Blk.new _ _ _
      have Ba := Lib.hid (B9.out.trans (hb.mono B9.out.size))
      have Xa := Lib.hid (X9.out.below hb X9.out.lt)
      have Ya := Lib.hid (Y9.out.below hb Y9.out.lt)
      have Sa := Lib.hid ((S9.out.below hb).mono hb.size)
      have Ta := Lib.hid ((T9.out.below hb).mono hb.size)
      have Ua := Lib.hid ((U9.out.below hb).mono hb.size)
      obtain ⟨za, hza⟩ : ∃ g, w9.heap.size = g := ⟨_, rfl⟩
      rw [hza] at Z
      try rw [hza]
      clear hW hb hza B9 X9 Y9 S9 T9 U9 d1 d2
      go_wp2_with fail
      refine (HS.out Wa Ba.out).mono ?_
      rintro e wb ⟨rfl, hb⟩
      have Bb := Lib.hid (Ba.out.trans (hb.mono Ba.out.size))
      have Xb := Lib.hid (Xa.out.below hb Xa.out.lt)
      have Yb := Lib.hid (Ya.out.below hb Ya.out.lt)
      have Zb := Lib.hid (Z.out.below hb Z.out.lt)
      have Sb := Lib.hid ((Sa.out.below hb).mono hb.size)
      have Tb := Lib.hid ((Ta.out.below hb).mono hb.size)
      have Ub := Lib.hid ((Ua.out.below hb).mono hb.size)
      clear hb Ba Xa Ya Z Sa Ta Ua
      have x0 := Xb.out.cell 0
      have x1 := Xb.out.cell 1
      have y0 := Yb.out.cell 0
      have y1 := Yb.out.cell 1
      have HSm := rSame_any s s _ _ wb.heap.size wb Sb.out Tb.out (Nat.le_refl _) hin.out hin.out
      rw [sameE_self] at HSm
      have HSmH := Lib.hid HSm
      clear HSm
      go_wp2_with fail
      refine HSmH.out.mono ?_
      rintro e wc ⟨rfl, hb⟩
      have Bc := Lib.hid (Bb.out.trans (hb.mono Bb.out.size))
      have Xc := Lib.hid (Xb.out.below hb Xb.out.lt)
      have Zc := Lib.hid (Zb.out.below hb Zb.out.lt)
      have Sc := Lib.hid ((Sb.out.below hb).mono hb.size)
      have Uc := Lib.hid ((Ub.out.below hb).mono hb.size)
      clear hb Bb Xb Yb Zb Sb Tb Ub HSmH x0 x1 y0 y1
      have x0 := Xc.out.cell 0
      have x1 := Xc.out.cell 1
      have y0 := Zc.out.cell 0
      have y1 := Zc.out.cell 1
      have HSm := rSame_any s s _ _ wc.heap.size wc Sc.out Uc.out (Nat.le_refl _) hin.out hin.out
      rw [sameE_self] at HSm
      have HSmH := Lib.hid HSm
      clear HSm
      go_wp2_with fail
      refine HSmH.out.mono ?_
      rintro e wd ⟨rfl, hb⟩
      have Bd := Lib.hid (Bc.out.trans (hb.mono Bc.out.size))
      clear hb
      go_wp2_with fail
      go_ret
      exact ⟨rfl, Bd.out⟩
end Go.Proofs.YtldkfhimpkiigaaGreatDoor
