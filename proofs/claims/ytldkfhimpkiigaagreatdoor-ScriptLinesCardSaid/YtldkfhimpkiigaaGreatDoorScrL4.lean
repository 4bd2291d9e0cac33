/-
  Layer 46 (script): the law Lines.
-/
import Derived.Test.YtldkfhimpkiigaaGreatDoorScrL1
import Derived.Test.YtldkfhimpkiigaaGreatDoorScrP8
namespace Go.Proofs.YtldkfhimpkiigaaGreatDoor
open Go.RowKit ScrP
attribute [local go_sem] Oper.semAt_some

theorem slice_up (b n m : Nat) (h : m ≤ n) (wx : World) : (Instr.slice 22 (.slice (some ⟨b, 0, none⟩) n n) none (some (.int .i64 (m : Int))) none).run Tryz.prog wx = .ok (.slice (some ⟨b, 0, none⟩) m n) wx := by
  have h1 : ¬ (m : Int) < 0 := by omega
  have h2 : ¬ n < m := by omega
  simp [Instr.slice, Instr.sliceBounds, Instr.sliceBound, asIntOf, run_underlying Tryz.underlying22, sizeOf, h, Addr.add]
theorem join_len : ∀ ls : List (List UInt8), (Lib.join ls [10]).length ≤ (ls.map fun x => x.length + 1).sum
  | [] => Nat.zero_le _
  | [a] => by rw [Lib.join_one]; simp only [List.map_cons, List.map_nil, List.sum_cons, List.sum_nil]; omega
  | a :: b :: r => by
    have e : Lib.join (a :: b :: r) [10] = a ++ 10 :: Lib.join (b :: r) [10] := by simp [Lib.join, List.intercalate]
    have h := join_len (b :: r)
    rw [e, List.map_cons, List.sum_cons, List.length_append, List.length_cons]
    omega
theorem sum_take_le : ∀ (l : List Nat) (n : Nat), (l.take n).sum ≤ l.sum
  | [], _ => by rw [List.take_nil]; exact Nat.le_refl _
  | _ :: _, 0 => Nat.zero_le _
  | a :: l, n + 1 => by
    have := sum_take_le l n
    rw [List.take_succ_cons, List.sum_cons, List.sum_cons]
    omega
theorem join_take_len (t : List UInt8) (n : Nat) : (Lib.join ((partsB 10 t).take n) [10]).length ≤ t.length + 1 := by
  have h1 := join_len ((partsB 10 t).take n)
  have h2 := sum_take_le ((partsB 10 t).map fun x => x.length + 1) n
  rw [parts_size] at h2
  rw [List.map_take] at h1
  omega
theorem partsB_count (t : List UInt8) : (partsB 10 t).length ≤ t.length + 1 := by
  have h := parts_size 10 t
  generalize partsB 10 t = L at h
  have : ∀ L : List (List UInt8), L.length ≤ (L.map fun x => x.length + 1).sum := by
    intro L
    induction L with
    | nil => exact Nat.zero_le _
    | cons a L ih => simp only [List.length_cons, List.map_cons, List.sum_cons]; omega
  have := this L
  omega
theorem mem_le_sum : ∀ {l : List Nat} {n : Nat}, n ∈ l → n ≤ l.sum
  | [], _, h => by cases h
  | a :: l, n, h => by
    rw [List.sum_cons]
    rcases List.mem_cons.1 h with rfl | h
    · omega
    · have := mem_le_sum h
      omega
/-- Join of the first lines. -/
theorem join_any {LL : List ByteArray} {t : ByteArray} {lb K : Nat} {w : World} (hB : Blk w lb 9 (LL.map Value.string).toArray) (hK : LL.length = K) (hLL : bls LL = partsB 10 t.data.toList) (ht : t.size ≤ 1000000) (n : Nat) (hn : n ≤ K) (u : ByteArray) (hu : u = ⟨(Lib.join ((partsB 10 t.data.toList).take n) [10]).toArray⟩) :
    Calls Tryz.prog 28 #[.slice (some ⟨lb, 0, none⟩) n K, .string ⟨#[10]⟩] w fun e w' => e = .returned (.string u) ∧ Below w.heap.size w w' := by
  subst hu
  have e : ((LL.take n).map (·.data.toList)) = (partsB 10 t.data.toList).take n := by rw [← hLL, bls, List.map_take]
  have hl : (LL.take n).length = n := by rw [List.length_take]; omega
  have hz := join_take_len t.data.toList n
  have htz : t.data.toList.length = t.size := Array.length_toList
  have h := Tryz.strings_Join lb 0 K (LL.take n) ⟨#[10]⟩ w (fun j x hj => by
    rw [Nat.zero_add, hB.cell j]
    rw [List.getElem?_take] at hj
    split at hj
    · rw [List.getElem?_toArray, List.getElem?_map, hj]; rfl
    · cases hj) hB.lt (by rw [hl]; have := partsB_count t.data.toList; have := congrArg List.length hLL; rw [bls, List.length_map] at this; omega) (by rw [hl]; exact hn) (by rw [e]; show (Lib.join _ [10]).length ≤ _; omega)
  rw [hl, e] at h
  exact h
theorem parse_err {text : ByteArray} {w : World} {f : Int} (h : Calls Tryz.prog 23 #[.string text] w fun e w' =>
    ∃ A n c A' n' c', e = .returned (.tuple #[.agg #[.slice A n c, .slice A' n' c'], .int .i64 ((parseS text.data.toList).line : Int), .int .i64 (parseS text.data.toList).err]) ∧ ScrAt w' w'.heap.size (.agg #[.slice A n c, .slice A' n' c']) (parseS text.data.toList).scr ∧ Below w.heap.size w w') (hf : (parseS text.data.toList).err = f) :
    Calls Tryz.prog 23 #[.string text] w fun e w' => ∃ A n c A' n' c' L, e = .returned (.tuple #[.agg #[.slice A n c, .slice A' n' c'], .int .i64 L, .int .i64 f]) ∧ Below w.heap.size w w' := by
  subst hf
  refine h.mono ?_
  rintro e w' ⟨A, n, c, A', n', c', rfl, _, hb⟩
  exact ⟨A, n, c, A', n', c', _, rfl, hb⟩
set_option maxRecDepth 100000 in
set_option maxHeartbeats 12800000 in
theorem lines_any (t : ByteArray) (w : World) (ht : t.size ≤ 140737488351232) (hK : KTab w) (hL : LibAt w)
    (hSan : ∀ W, Below w.heap.size w W → Calls Tryz.prog 10 #[] W fun e w' => e = .returned (.bool true) ∧ Below W.heap.size W w') :
    Calls Tryz.prog 8 #[.string t] w fun e w' => e = .returned (.bool true) ∧ Below w.heap.size w w' := by
  have HS := Lib.hid hSan
  have HK := Lib.hid hK
  have HL := Lib.hid hL
  have HPa := Lib.hid (fun W (hb : Below w.heap.size w W) t (hz : t.size ≤ 100000000) r (hr : parseS t.data.toList = r) => parse_at t W hz (hK.below hb) (hL.below hb) r hr)
  have htH := Lib.hid ht
  clear hSan hK hL ht
  by_cases hz : 5000 < t.size
  case pos =>
    have d1 : decide ((5000 : Int) < (t.size : Int)) = true := decide_eq_true (by omega)
    have d2 : (5000 : Int) < (t.size : Int) := by omega
    clear hz
    go_enter Tryz.func8, Tryz.ntmps8
    go_wp2_with fail
    refine (HS.out w (Below.refl _ _)).mono ?_
    rintro e w1 ⟨rfl, hb⟩
    have B1 := Lib.hid hb
    clear hb
    go_wp2_with fail
    go_ret
    exact ⟨rfl, B1.out⟩
  case neg =>
  have d1 : decide ((5000 : Int) < (t.size : Int)) = false := decide_eq_false (by omega)
  have d2 : ¬ (5000 : Int) < (t.size : Int) := by omega
  have hzH := Lib.hid hz
  obtain ⟨R, hR⟩ : ∃ R, parseS t.data.toList = R := ⟨_, rfl⟩
  have HP := Lib.hid (HPa.out w (Below.refl _ _) t (by omega) R hR)
  have hRH := Lib.hid hR
  obtain ⟨q, hq⟩ : ∃ q, R.line = q := ⟨_, rfl⟩
  obtain ⟨E, hE⟩ : ∃ E, R.err = E := ⟨_, rfl⟩
  have hqH := Lib.hid hq
  have hEH := Lib.hid hE
  rw [hq, hE] at HP
  clear hz hR hq hE
  go_enter Tryz.func8, Tryz.ntmps8
  go_wp2_with fail
  refine HP.out.mono ?_
  rintro e w1 ⟨A, n, c, A', n', c', rfl, _, hb⟩
  have B1 := Lib.hid hb
  clear hb HP
  go_upto_region 4 with fail
  refine world_is (P := fun W => Code.wp _ _ _ _ W) (fun W2 hW => ?_)
  have B2 : Hid (Below w.heap.size w W2) := by unfold Hid; rw [← hW]; exact B1.out.alloc B1.out.size _
  clear hW B1 d1 d2
  by_cases hE0 : E = 0
  case pos =>
    subst hE0
    have h0 : q = 0 := by rw [← hqH.out, ← hRH.out]; exact parse_ok_line (by rw [hRH.out]; exact hEH.out)
    subst h0
    go_wp2_with fail
    refine (HS.out W2 B2.out).mono ?_
    rintro e w3 ⟨rfl, hb⟩
    have B3 := Lib.hid (B2.out.trans (hb.mono B2.out.size))
    clear hb
    go_wp2_with fail
    go_ret
    exact ⟨rfl, B3.out⟩
  case neg =>
  have de : (E == 0) = false := by rw [beq_eq_false_iff_ne]; exact hE0
  by_cases hq0 : q = 0
  case pos =>
    subst hq0
    go_wp2_with fail
    refine (HS.out W2 B2.out).mono ?_
    rintro e w3 ⟨rfl, hb⟩
    have B3 := Lib.hid (B2.out.trans (hb.mono B2.out.size))
    clear hb
    go_wp2_with fail
    go_ret
    exact ⟨rfl, B3.out⟩
  case neg =>
  obtain ⟨m, hm, hmL, hF, hG⟩ := lines_plain (t := t.data.toList) (by rw [hRH.out, hEH.out]; exact hE0) (by rw [hRH.out, hqH.out]; exact hq0)
  rw [hRH.out, hqH.out] at hm
  have dq : ((q : Int) == 0) = false := by rw [beq_eq_false_iff_ne]; omega
  have nq : ¬ (q : Int) = 0 := by omega
  obtain ⟨_, mx, hmx⟩ := (HL.out.below B2.out).mx
  have HSp := Lib.hid (Tryz.strings_Split t ⟨#[10]⟩ mx W2 (by have := hzH.out; omega) hmx (by decide))
  have HI := linfo t
  have hll := lines_len t
  obtain ⟨LL, hLL⟩ : ∃ L, Lib.splitB ⟨#[10]⟩ 0 (Lib.countB t ⟨#[10]⟩) t = L := ⟨_, rfl⟩
  obtain ⟨K, hK⟩ : ∃ K, Lib.countB t ⟨#[10]⟩ + 1 = K := ⟨_, rfl⟩
  rw [hK] at hll
  rw [hLL] at HI hll
  have HSp' := HSp.out
  rw [hLL, hK] at HSp'
  have HSpH := Lib.hid HSp'
  have HIH := Lib.hid HI
  have hllH := Lib.hid hll
  have hmK : m < K := by
    rw [← HI.bytes] at hmL
    rw [← hll]
    simpa [bls] using hmL
  have hK8 : K ≤ 5001 := by rw [← hll]; have := HI.len; have := hzH.out; omega
  obtain ⟨f, hf⟩ : ∃ f, (parseS (Lib.join ((partsB 10 t.data.toList).take m) [10])).err = f := ⟨_, rfl⟩
  obtain ⟨g, hg⟩ : ∃ g, (parseS (Lib.join ((partsB 10 t.data.toList).take (m + 1)) [10])).err = g := ⟨_, rfl⟩
  rw [hf] at hF
  rw [hg] at hG
  obtain ⟨u1, hu1⟩ : ∃ u : ByteArray, u = ⟨(Lib.join ((partsB 10 t.data.toList).take m) [10]).toArray⟩ := ⟨_, rfl⟩
  obtain ⟨u2, hu2⟩ : ∃ u : ByteArray, u = ⟨(Lib.join ((partsB 10 t.data.toList).take (m + 1)) [10]).toArray⟩ := ⟨_, rfl⟩
  have hz1 : u1.size ≤ 100000000 := by rw [hu1]; have := join_take_len t.data.toList m; have h2 : t.data.toList.length = t.size := Array.length_toList; have := hzH.out; show (List.toArray _).size ≤ _; rw [List.size_toArray]; omega
  have hz2 : u2.size ≤ 100000000 := by rw [hu2]; have := join_take_len t.data.toList (m + 1); have h2 : t.data.toList.length = t.size := Array.length_toList; have := hzH.out; show (List.toArray _).size ≤ _; rw [List.size_toArray]; omega
  have hp1 : Hid ((parseS u1.data.toList).err = f) := by unfold Hid; rw [hu1]; exact hf
  have hp2 : Hid ((parseS u2.data.toList).err = g) := by unfold Hid; rw [hu2]; exact hg
  have HJ1 := Lib.hid (fun W (hb : Blk W W2.heap.size 9 (LL.map Value.string).toArray) => join_any hb hll HI.bytes (by have := hzH.out; omega) m (by omega) u1 hu1)
  have HJ2 := Lib.hid (fun W (hb : Blk W W2.heap.size 9 (LL.map Value.string).toArray) => join_any hb hll HI.bytes (by have := hzH.out; omega) q (by omega) u2 (by rw [hu2, hm]))
  have hzH1 := Lib.hid hz1
  have hzH2 := Lib.hid hz2
  have hFH := Lib.hid hF
  have hGH := Lib.hid hG
  have hmH := Lib.hid hm
  have e1 : (q : Int) - 1 = (m : Int) := by omega
  have hgt : decide ((K : Int) < (q : Int)) = false := decide_eq_false (by omega)
  have hgt2 : ¬ (K : Int) < (q : Int) := by omega
  have hgt3 : decide (K < q) = false := decide_eq_false (by omega)
  have hlt : decide ((q : Int) < 1) = false := decide_eq_false (by omega)
  have hlt2 : ¬ (q : Int) < 1 := by omega
  have hq5 : q ≤ 5001 := by omega
  have hmKH := Lib.hid hmK
  have HSl1 := Lib.hid (slice_up W2.heap.size K m (by omega))
  have HSl2 := Lib.hid (slice_up W2.heap.size K q (by omega))
  obtain ⟨lb, elb⟩ : ∃ g, W2.heap.size = g := ⟨_, rfl⟩
  rw [elb] at HSpH HJ1 HJ2 HSl1 HSl2
  have elbH := Lib.hid elb
  clear hmx HSp HI hll hLL hK HSp' hf hg hu1 hu2 hz1 hz2 hF hG hmL hq0 hm hmK elb
  go_wp2_with fail
  refine HSpH.out.mono ?_
  rintro e w3 ⟨rfl, hw3⟩
  rw [hw3]
  clear HSpH hw3 w3
  go_upto_region 7 with fail
  refine world_is (P := fun W => Code.wp _ _ _ _ W) (fun W3 hW => ?_)
  have hb : Below W2.heap.size W2 W3 := by rw [← hW]; exact (Below.refl _ _).alloc (Nat.le_refl _) _
  have LB3 : Hid (Blk W3 lb 9 (LL.map Value.string).toArray) := by unfold Hid; rw [← hW, ← elbH.out]; exact Blk.new _ _ _
  have B3 := Lib.hid (B2.out.trans (hb.mono B2.out.size))
  clear hW hb B2 elbH
  have s1 := HSl1.out
  clear HSl1 e1 
  have e1 : (q : Int) - 1 = (m : Int) := by have := hmH.out; omega
  go_wp2_with fail
  refine (HJ1.out W3 LB3.out).mono ?_
  rintro e w4 ⟨rfl, hb⟩
  have B4 := Lib.hid (B3.out.trans (hb.mono B3.out.size))
  have LB4 := Lib.hid (LB3.out.below hb LB3.out.lt)
  have HP1 := Lib.hid (parse_err (HPa.out w4 B4.out u1 hzH1.out _ rfl) hp1.out)
  clear hb B3 LB3 HJ1 s1
  go_wp2_with fail
  refine HP1.out.mono ?_
  rintro e w5 ⟨A1, n1, c1, A1', n1', c1', L1, rfl, hb⟩
  have B5 := Lib.hid (B4.out.trans (hb.mono B4.out.size))
  have LB5 := Lib.hid (LB4.out.below hb LB4.out.lt)
  clear hb B4 LB4 HP1
  go_upto_region 10 with fail
  refine world_is (P := fun W => Code.wp _ _ _ _ W) (fun W6 hW => ?_)
  have hb : Below w5.heap.size w5 W6 := by rw [← hW]; exact (Below.refl _ _).alloc (Nat.le_refl _) _
  have B6 := Lib.hid (B5.out.trans (hb.mono B5.out.size))
  have LB6 := Lib.hid (LB5.out.below hb LB5.out.lt)
  clear hW hb B5 LB5
  have s2 := HSl2.out
  clear HSl2
  go_wp2_with fail
  refine (HJ2.out W6 LB6.out).mono ?_
  rintro e w7 ⟨rfl, hb⟩
  have B7 := Lib.hid (B6.out.trans (hb.mono B6.out.size))
  have LB7 := Lib.hid (LB6.out.below hb LB6.out.lt)
  have HP2 := Lib.hid (parse_err (HPa.out w7 B7.out u2 hzH2.out _ rfl) hp2.out)
  clear hb B6 LB6 HJ2 s2
  go_wp2_with fail
  refine HP2.out.mono ?_
  rintro e w8 ⟨A2, n2, c2, A2', n2', c2', L2, rfl, hb⟩
  have B8 := Lib.hid (B7.out.trans (hb.mono B7.out.size))
  have LB8 := Lib.hid (LB7.out.below hb LB7.out.lt)
  clear hb B7 LB7 HP2
  go_upto_region 11 with fail
  refine world_is (P := fun W => Code.wp _ _ _ _ W) (fun W9 hW => ?_)
  have hb : Below w8.heap.size w8 W9 := by rw [← hW]; exact (Below.refl _ _).alloc (Nat.le_refl _) _
  have B9 := Lib.hid (B8.out.trans (hb.mono B8.out.size))
  have LB9 := Lib.hid (LB8.out.below hb LB8.out.lt)
  clear hW hb B8 LB8 hgt hgt2 hgt3 hlt hlt2 e1 hp1 hp2 hzH1 hzH2 HPa
  have dg : (g != 0) = true := bne_iff_ne.2 hGH.out
  have ng : ¬ g = 0 := hGH.out
  by_cases hm0 : m = 0
  case pos =>
    have r1 : decide ((1 : Int) < (q : Int)) = false := decide_eq_false (by have := hmH.out; omega)
    have r2 : ¬ (1 : Int) < (q : Int) := by have := hmH.out; omega
    clear hm0
    obtain ⟨last, hlast⟩ : ∃ b, b = false := ⟨_, rfl⟩
    rcases hFH.out with rfl | rfl | rfl
    · go_wp2_with fail
      refine (HS.out W9 B9.out).mono ?_
      rintro e wz ⟨rfl, hb⟩
      have BZ := Lib.hid (B9.out.trans (hb.mono B9.out.size))
      clear hb
      go_wp2_with fail
      go_ret
      exact ⟨rfl, BZ.out⟩
    · go_wp2_with fail
      refine (HS.out W9 B9.out).mono ?_
      rintro e wz ⟨rfl, hb⟩
      have BZ := Lib.hid (B9.out.trans (hb.mono B9.out.size))
      clear hb
      go_wp2_with fail
      go_ret
      exact ⟨rfl, BZ.out⟩
    · go_wp2_with fail
      refine (HS.out W9 B9.out).mono ?_
      rintro e wz ⟨rfl, hb⟩
      have BZ := Lib.hid (B9.out.trans (hb.mono B9.out.size))
      clear hb
      go_wp2_with fail
      go_ret
      exact ⟨rfl, BZ.out⟩
  case neg =>
  obtain ⟨j, hj⟩ : ∃ j, m = j + 1 := ⟨m - 1, by omega⟩
  have r1 : decide ((1 : Int) < (q : Int)) = true := decide_eq_true (by have := hmH.out; omega)
  have r2 : (1 : Int) < (q : Int) := by have := hmH.out; omega
  have e2 : (q : Int) - 2 = (j : Int) := by have := hmH.out; omega
  have hjK : j < K := by have := hmKH.out; omega
  obtain ⟨x, hx⟩ : ∃ x, LL[j]? = some x := ⟨_, List.getElem?_eq_getElem (by rw [hllH.out]; exact hjK)⟩
  have cx : W9.cell? ⟨lb, j, none⟩ = some (.string x) := by rw [LB9.out.cell j, List.getElem?_toArray, List.getElem?_map, hx]; rfl
  have hxs : x.size ≤ 5001 := by
    have h1 := HIH.out.used
    have h2 := mem_le_sum (List.mem_map.2 ⟨x, List.mem_of_getElem? hx, rfl⟩ : x.size + 1 ∈ LL.map fun x => x.size + 1)
    have := hzH.out
    omega
  have HT := Lib.hid (Tryz.strings_Trim_one x 32 (by decide) W9 (by omega))
  obtain ⟨u3, hu3⟩ : ∃ u : ByteArray, (⟨(Lib.trimB x.data.toList 32).toArray⟩ : ByteArray) = u := ⟨_, rfl⟩
  rw [hu3] at HT
  have k1 : (0 : Int) ≤ (j : Int) := by omega
  have k2 : (j : Int) < (K : Int) := by omega
  clear hm0 hu3 hj hx hxs
  go_wp2_with fail
  refine HT.out.mono ?_
  rintro e w10 ⟨rfl, hw⟩
  have B10 : Hid (Below w.heap.size w w10) := by
    rcases hw with rfl | rfl
    · exact B9.out
    · exact B9.out.drew
  obtain ⟨last, hlast⟩ : ∃ b, (u3.toList == [116, 101, 120, 116]) = b := ⟨_, rfl⟩
  clear hw B9 LB9 HT cx e2 k1 k2 hjK r1 r2
  cases last
  · rcases hFH.out with rfl | rfl | rfl
    · go_wp2_with fail
      refine (HS.out w10 B10.out).mono ?_
      rintro e wz ⟨rfl, hb⟩
      have BZ := Lib.hid (B10.out.trans (hb.mono B10.out.size))
      clear hb
      go_wp2_with fail
      go_ret
      exact ⟨rfl, BZ.out⟩
    · go_wp2_with fail
      refine (HS.out w10 B10.out).mono ?_
      rintro e wz ⟨rfl, hb⟩
      have BZ := Lib.hid (B10.out.trans (hb.mono B10.out.size))
      clear hb
      go_wp2_with fail
      go_ret
      exact ⟨rfl, BZ.out⟩
    · go_wp2_with fail
      refine (HS.out w10 B10.out).mono ?_
      rintro e wz ⟨rfl, hb⟩
      have BZ := Lib.hid (B10.out.trans (hb.mono B10.out.size))
      clear hb
      go_wp2_with fail
      go_ret
      exact ⟨rfl, BZ.out⟩
  · rcases hFH.out with rfl | rfl | rfl
    · go_wp2_with fail
      refine (HS.out w10 B10.out).mono ?_
      rintro e wz ⟨rfl, hb⟩
      have BZ := Lib.hid (B10.out.trans (hb.mono B10.out.size))
      clear hb
      go_wp2_with fail
      go_ret
      exact ⟨rfl, BZ.out⟩
    · go_wp2_with fail
      refine (HS.out w10 B10.out).mono ?_
      rintro e wz ⟨rfl, hb⟩
      have BZ := Lib.hid (B10.out.trans (hb.mono B10.out.size))
      clear hb
      go_wp2_with fail
      go_ret
      exact ⟨rfl, BZ.out⟩
    · go_wp2_with fail
      refine (HS.out w10 B10.out).mono ?_
      rintro e wz ⟨rfl, hb⟩
      have BZ := Lib.hid (B10.out.trans (hb.mono B10.out.size))
      clear hb
      go_wp2_with fail
      go_ret
      exact ⟨rfl, BZ.out⟩
end Go.Proofs.YtldkfhimpkiigaaGreatDoor
