/-
  Layer 23 (device): slices.Repeat, the memory's New.
  Layer 23 (device): the memory's methods at every argument.
  Layer 23 (device): what keeps contents of 64 bytes.
  Layer 23 (device), plain: a device, its steps.
  Layer 23 (device): a device in memory; the methods that only look.
  Layer 23 (device): step.
  Layer 23 (device), plain: what no operation takes back.
  Layer 23 (device): step, one contract; what an operation leaves.
  Layer 23 (device): what Write does in its step.
-/
import Derived.Test.YtgdpgiegiacepaaDoorG3
import Derived.Test.YtgdpgiegiacepaaDoorShelf
import Derived.OwnWalk
import Derived.Laws.IdiomStrings
import Derived.Deep.RegionHeld3
namespace Go.Proofs.YtgdpgiegiacepaaDoor
open Go.RowKit Go.Shelf
attribute [local go_sem] Oper.semAt_some

/-- 64 zero bytes. -/
def zeros : ByteArray := ⟨(List.replicate 64 (0 : UInt8)).toArray⟩
theorem zeros_size : zeros.size = 64 := by decide
/-- A new sector. -/
def Sec.blank : Sec := ⟨zeros, zeros, ⟨#[]⟩, false, false⟩

theorem ownsRow_slice {w : World} {base : Nat} {e : TypeId} {size : Nat} {v : Value} {n : Nat} {xs : List Value} (h : w.ownsRow base e size v n xs) : ∃ A c, v = .slice A n c := by
  rcases h.2 with ⟨rfl, rfl⟩ | ⟨g, cap, _, rfl, _⟩
  · exact ⟨none, 0, rfl⟩
  · exact ⟨_, _, rfl⟩

theorem mul_one (w : World) (n : Nat) (h : n ≤ 4096) : Calls Tryd.prog 35 #[.int .u64 1, .int .u64 n] w fun e w' => e = .returned (.tuple #[.int .u64 0, .int .u64 n]) ∧ w = w' := by
  refine (Tryd.bits_Mul 1 n (by omega) (by omega) w).mono ?_
  rintro e w' ⟨rfl, rfl⟩
  refine ⟨?_, rfl⟩
  rw [Nat.one_mul, Nat.div_eq_of_lt (by omega), Nat.mod_eq_of_lt (by omega)]
  rfl

theorem infoSecSize : (Tryd.prog.info? 101).map (·.size) = some 5 := by kernel_rfl

/-- Some sectors of a row are written. -/
def Row (w : World) (g n k : Nat) (s : Sec) : Prop := ∃ cur, Blk w g 101 cur ∧ cur.size = n * 5 ∧ cur.toList.take (k * 5) = memCells (List.replicate k s)

theorem copy_step {wr : World} {g n k m dCap sLen sCap : Nat} {s : Sec} {ad : Addr} (h : Row wr g n k s) (hm : Nat.min sLen (n - k) = m) (hkm : k + m ≤ n)
    (hsrc : ∀ j u, (memCells (List.replicate m s))[j]? = some u → wr.cell? (ad.add j) = some u) :
    ∃ w2, (Builtin.copy_ #[115, 115] 3 #[.slice (some ⟨g, k * 5, none⟩) (n - k) dCap, .slice (some ad) sLen sCap]).run Tryd.prog wr = .ok (.int .i64 m) w2 ∧ Row w2 g n (k + m) s ∧ ∀ B w0, Below B w0 wr → B ≤ g → Below B w0 w2 := by
  obtain ⟨cur, hb, hsz, ht⟩ := h
  have hl : (memCells (List.replicate m s)).length = m * 5 := by rw [memCells_len, List.length_replicate]
  have hr := run_copy_rowN (P := Tryd.prog) wr 115 115 3 101 5 g (k * 5) (n - k) dCap ad sLen sCap cur 101 (memCells (List.replicate m s)) Tryd.underlying115 infoSecSize hb (by rw [hl, hm]) hsrc (by rw [hl, hsz]; omega) (memCells_one _)
  rw [hm] at hr
  refine ⟨_, hr, ⟨_, setRow_heap wr g _ _ _ _ hb, ?_, ?_⟩, fun B w0 hB hg => below_setRow hB hg _⟩
  · have : cur.toList.length = n * 5 := by simpa using hsz
    simp [hl]; omega
  · rw [show (cur.toList.take (k * 5) ++ memCells (List.replicate m s) ++ cur.toList.drop (k * 5 + (memCells (List.replicate m s)).length)).toArray.toList = cur.toList.take (k * 5) ++ memCells (List.replicate m s) ++ cur.toList.drop (k * 5 + (memCells (List.replicate m s)).length) from rfl, ht, ← memCells_app, List.replicate_append_replicate]
    rw [List.take_append_of_le_length (by rw [memCells_len, List.length_replicate]; omega), List.take_of_length_le (by rw [memCells_len, List.length_replicate]; omega)]

set_option maxRecDepth 100000 in
set_option maxHeartbeats 4000000 in
theorem slRepeat_any (w : World) (gb cap n : Nat) (s : Sec) (h1 : 1 ≤ n) (h2 : n ≤ 4096) (_hc : 1 ≤ cap) (_hcm : cap ≤ 4096) (hb : gb < w.heap.size) (hs : ∀ j u, (secCells s)[j]? = some u → w.cell? ⟨gb, j, none⟩ = some u) :
    Calls Tryd.prog 61 #[.slice (some ⟨gb, 0, none⟩) 1 cap, .int .i64 n] w fun e w' => ∃ g, e = .returned (.slice (some ⟨g, 0, none⟩) n n) ∧ w'.ownsRow w.heap.size 101 5 (.slice (some ⟨g, 0, none⟩) n n) n (memCells (List.replicate n s)) ∧ Below w.heap.size w w' := by
  obtain ⟨i0, hi, hz0, hz1, hz2⟩ := info_parts infoSec
  have Hs := Lib.hid hs
  have Hmul := Lib.hid (mul_one w n h2)
  have e1 : IntKind.u64.wrap (n : Int) = n := by unfold IntKind.wrap; simp [IntKind.signed, IntKind.bits]; omega
  clear hs
  obtain ⟨w1, hmk, hr1, hg1⟩ := run_make_full (P := Tryd.prog) w w.heap.size 115 101 i0 _ 5 Tryd.underlying115 hi hz0 hz1 .i64 .i64 n (by rw [hz2]; omega) (by unfold maxLen; omega) (Nat.le_refl _)
  obtain ⟨cur, hbk, hcs⟩ : ∃ cur, Blk w1 w.heap.size 101 cur ∧ cur.size = n * 5 := by
    rcases hr1.2 with ⟨_, h0⟩ | ⟨g, cap', cur, e, _, hb, _, _, hsz, _⟩
    · omega
    · cases e; exact ⟨cur, hb, hsz⟩
  have hB1 : Below w.heap.size w w1 := below_grown hg1
  clear hr1 hg1
  have hs1 : ∀ j u, (memCells (List.replicate 1 s))[j]? = some u → w1.cell? ((⟨gb, 0, none⟩ : Addr).add j) = some u := by
    intro j u hu
    have e : (⟨gb, 0, none⟩ : Addr).add j = ⟨gb, j, none⟩ := by simp [Addr.add]; intro e; exact e.symm
    rw [e]
    exact (hB1.cell (p := ⟨gb, j, none⟩) hb).trans (Hs.out j u (by simpa [memCells] using hu))
  obtain ⟨w2, hcp, hrow, hB2⟩ := copy_step (wr := w1) (g := w.heap.size) (n := n) (k := 0) (m := 1) (dCap := n) (sLen := 1) (sCap := cap) (ad := ⟨gb, 0, none⟩) ⟨cur, hbk, hcs, by simp [memCells]⟩ (Nat.min_eq_left (by omega)) (by omega) hs1
  have hB2' := hB2 _ _ hB1 (Nat.le_refl _)
  rw [Nat.zero_mul, Nat.sub_zero] at hcp
  rw [Nat.zero_add] at hrow
  clear hs1 hbk hcs hB2
  go_enter Tryd.func61, Tryd.ntmps61
  go_wp2_with (go_at_call 35; refine Hmul.out.mono ?_; rintro e w' ⟨rfl, rfl⟩)
  go_loopw [8] (fun a wr => ∃ k : Nat, 1 ≤ k ∧ k ≤ n ∧ a = .int .i64 k ∧ Row wr w.heap.size n k s ∧ Below w.heap.size w wr) (fun a _ => n - (intOf a).toNat)
  case atStart => exact ⟨1, Nat.le_refl _, h1, rfl, hrow, hB2'⟩
  case round =>
    obtain ⟨k, hk1, hk, rfl, hR, hB⟩ := hrel
    clear hmk hcp hrow hB2' hB1 Hmul
    by_cases hkl : k < n
    · have hsl1 : ∀ wx, (Instr.slice 115 (.slice (some ⟨w.heap.size, 0, none⟩) n n) (some (.int .i64 k)) none none).run Tryd.prog wx = .ok (.slice (some ⟨w.heap.size, k * 5, none⟩) (n - k) (n - k)) wx := by
        intro wx
        have e2 : ¬ n = k := by omega
        simp [go_sem, e2]
        omega
      have hsl2 : ∀ wx, (Instr.slice 115 (.slice (some ⟨w.heap.size, 0, none⟩) n n) none (some (.int .i64 k)) none).run Tryd.prog wx = .ok (.slice (some ⟨w.heap.size, 0, none⟩) k n) wx := by
        intro wx
        have e2 : ¬ n = k := by omega
        simp [go_sem]
        omega
      obtain ⟨m, hm⟩ : ∃ m, Nat.min k (n - k) = m := ⟨_, rfl⟩
      have hm1 : 1 ≤ m := by have : Nat.min k (n - k) = min k (n - k) := rfl; omega
      have hm2 : k + m ≤ n := by have : Nat.min k (n - k) = min k (n - k) := rfl; omega
      have hm3 : m ≤ k := by have : Nat.min k (n - k) = min k (n - k) := rfl; omega
      have hR2 : Row wr.drew w.heap.size n k s := hR
      obtain ⟨w3, hcp, hrow, hB3⟩ := copy_step (wr := wr.drew) (dCap := n - k) (sLen := k) (sCap := n) (ad := ⟨w.heap.size, 0, none⟩) hR2 hm hm2 (fun j u hu => by
        obtain ⟨cur, hb, hsz, ht⟩ := hR2
        have hj := (List.getElem?_eq_some_iff.1 hu).1
        rw [memCells_len, List.length_replicate] at hj
        have e : (⟨w.heap.size, 0, none⟩ : Addr).add j = ⟨w.heap.size, j, none⟩ := by simp [Addr.add]; intro e; exact e.symm
        rw [e, hb.cell, ← hu, ← Array.getElem?_toList, ← List.getElem?_take_of_lt (show j < k * 5 by omega), ht]
        obtain ⟨d, rfl⟩ : ∃ d, k = m + d := ⟨k - m, by omega⟩
        rw [← List.replicate_append_replicate, memCells_app, List.getElem?_append_left (by rw [memCells_len, List.length_replicate]; exact hj)])
      have hB4 := hB3 _ _ hB.drew (Nat.le_refl _)
      clear hR hR2 hB3 hB hm
      go_wp2_with fail
      go_region
      go_wp2
      go_roundw
      case rel => exact ⟨k + m, by omega, hm2, by go_num, hrow, hB4⟩
      case measure => simp [intOf]; omega
    · obtain rfl : k = n := by omega
      go_wp2_with fail
      go_ret
      obtain ⟨cur, hb, hsz, ht⟩ := hR
      exact ⟨_, rfl, ⟨by rw [memCells_len, List.length_replicate], .inr ⟨w.heap.size, k, cur, rfl, Nat.le_refl _, hb, Nat.le_refl _, by unfold maxLen; omega, hsz, ht⟩⟩, hB⟩

theorem New_bad (w : World) (n : Int) (h : n < 1 ∨ 4096 < n) :
    Calls Tryd.prog 41 #[.int .i64 n] w fun e w' => e = .returned (.tuple #[.pointer none, .int .i64 1]) ∧ w = w' := by
  by_cases h1 : n < 1
  · clear h
    go_enter Tryd.func41, Tryd.ntmps41
    go_wp2_with fail
    go_ret2
    exact ⟨rfl, rfl⟩
  · have h2 : 4096 < n := by omega
    clear h
    go_enter Tryd.func41, Tryd.ntmps41
    go_wp2_with fail
    go_ret2
    exact ⟨rfl, rfl⟩

theorem rep64 (w : World) : Calls Tryd.prog 20 #[.string ⟨#[0]⟩, .int .i64 64] w fun e w' => e = .returned (.string zeros) ∧ Below w.heap.size w w' := by
  refine (Tryd.strings_Repeat ⟨#[0]⟩ 64 w (by omega) (by show 1 * 64 ≤ 140737488355328; omega)).mono ?_
  rintro e w' ⟨rfl, hB⟩
  refine ⟨?_, hB⟩
  have h : (⟨(Lib.repeatL (⟨#[0]⟩ : ByteArray).data.toList 64).toArray⟩ : ByteArray) = zeros := by kernel_rfl
  rw [h]

set_option maxRecDepth 100000 in
set_option maxHeartbeats 4000000 in
theorem New_ok (w : World) (n : Nat) (h1 : 1 ≤ n) (h2 : n ≤ 4096) :
    Calls Tryd.prog 41 #[.int .i64 n] w fun e w' => ∃ b g, e = .returned (.tuple #[.pointer (some ⟨b, 0, none⟩), .int .i64 0]) ∧ w.heap.size ≤ b ∧ w.heap.size ≤ g ∧ PMem w' b g (List.replicate n Sec.blank) ∧ Below w.heap.size w w' := by
  go_enter Tryd.func41, Tryd.ntmps41
  go_wp2_with (go_at_call 20; refine (rep64 _).mono ?_; rintro e w1 ⟨rfl, hB1⟩)
  have hB1s := hB1.size
  have hbk := Blk.new w1 101 #[.string zeros, .string zeros, .string ⟨#[]⟩, .bool false, .bool false]
  have hB2 : Below w.heap.size w (w1.alloc (.cells #[.string zeros, .string zeros, .string ⟨#[]⟩, .bool false, .bool false] 101)) := hB1.alloc hB1s _
  have hsz : (w1.alloc (.cells #[.string zeros, .string zeros, .string ⟨#[]⟩, .bool false, .bool false] 101)).heap.size = w1.heap.size + 1 := by simp
  generalize w1.alloc (.cells #[.string zeros, .string zeros, .string ⟨#[]⟩, .bool false, .bool false] 101) = w2 at hbk hB2 hsz ⊢
  have HR := Lib.hid (slRepeat_any w2 w1.heap.size 1 n Sec.blank h1 h2 (Nat.le_refl _) (by omega) (by omega) (fun j u hu => by rw [hbk.cell, ← Array.getElem?_toList]; exact hu))
  go_wp2_with (go_at_call 61; refine HR.out.mono ?_; rintro e w3 ⟨g, rfl, hrow, hB3⟩)
  go_ret2
  have hs3 := hB3.size
  have hB4 := (hB2.trans (hB3.mono (by omega))).alloc (by omega) (.cells #[.slice (some ⟨g, 0, none⟩) n n] 118)
  obtain ⟨g2, hg2, hM2⟩ := isMem_of_row (tM := 118) (M := List.replicate n Sec.blank) (by simp; omega) (by simpa using hrow.alloc (.cells #[.slice (some ⟨g, 0, none⟩) n n] 118)) (Blk.new w3 118 #[.slice (some ⟨g, 0, none⟩) n n]) (by decide)
  exact ⟨_, g2, rfl, by omega, by omega, hM2, hB4⟩
end Go.Proofs.YtgdpgiegiacepaaDoor
namespace Go.Proofs.YtgdpgiegiacepaaDoor
open Go.RowKit Go.Shelf
attribute [local go_sem] Oper.semAt_some

/-- A number is a sector's. -/
def isAt (M : List Sec) (i : Int) : Prop := 0 ≤ i ∧ i < M.length
instance (M : List Sec) (i : Int) : Decidable (isAt M i) := inferInstanceAs (Decidable (_ ∧ _))
/-- One sector is changed. -/
def upd (f : Sec → Sec) (M : List Sec) (i : Int) : List Sec := M.set i.toNat (f (M.getD i.toNat default))
def Sec.stale (s : Sec) : Sec := { s with now := s.before }
def Sec.wear (s : Sec) : Sec := { s with worn := true }
/-- The error of an operation on a sector. -/
def errOf (p : Prop) [Decidable p] : Value := .int .i64 (if p then 0 else 1)

theorem isAt_get {M : List Sec} {i : Int} (h : isAt M i) : ∃ (k : Nat) (s : Sec), i = (k : Int) ∧ M[k]? = some s ∧ ∀ f, upd f M i = M.set k (f s) := by
  obtain ⟨k, rfl⟩ := Int.eq_ofNat_of_zero_le h.1
  have hk : k < M.length := by have := h.2; omega
  refine ⟨k, M[k], rfl, List.getElem?_eq_getElem hk, fun f => ?_⟩
  unfold upd
  simp [List.getD, List.getElem?_eq_getElem hk]
theorem not_isAt {M : List Sec} {i : Int} (h : ¬ isAt M i) : i < 0 ∨ (M.length : Int) ≤ i := by
  unfold isAt at h; omega

section
variable {w : World} {b g : Nat} {M : List Sec}

theorem write_any (h : PMem w b g M) (i : Int) (t : ByteArray) :
    Calls Tryd.prog 67 #[.pointer (some ⟨b, 0, none⟩), .int .i64 i, .string t] w fun e w' => e = .returned (errOf (isAt M i ∧ t.size = 64)) ∧ PMem w' b g (if isAt M i ∧ t.size = 64 then upd (fun s => s.write t) M i else M) ∧ w.grownBy w' (some g) := by
  by_cases hp : isAt M i ∧ t.size = 64
  · obtain ⟨k, s, rfl, hs, hu⟩ := isAt_get hp.1
    refine (write_in h k s t hs hp.2).mono ?_
    rintro e w' ⟨rfl, h1, h2⟩
    rw [if_pos hp, hu]
    exact ⟨by unfold errOf; rw [if_pos hp], h1, h2⟩
  · refine (write_out h i t ?_).mono ?_
    · by_cases h1 : isAt M i
      · exact .inr (fun e => hp ⟨h1, e⟩)
      · exact .inl (not_isAt h1)
    · rintro e w' ⟨rfl, rfl⟩
      rw [if_neg hp]
      exact ⟨by unfold errOf; rw [if_neg hp], h, grown_refl _ _⟩
theorem read_any (h : PMem w b g M) (i : Int) :
    Calls Tryd.prog 53 #[.pointer (some ⟨b, 0, none⟩), .int .i64 i] w fun e w' => e = .returned (.tuple #[.string (if isAt M i then (M.getD i.toNat default).seen else ⟨#[]⟩), errOf (isAt M i)]) ∧ w = w' := by
  by_cases hp : isAt M i
  · obtain ⟨k, s, rfl, hs, hu⟩ := isAt_get hp
    refine (read_in h k s hs).mono ?_
    rintro e w' ⟨rfl, rfl⟩
    rw [if_pos hp]
    exact ⟨by unfold errOf; rw [if_pos hp]; simp [List.getD, hs], rfl⟩
  · refine (read_out h i (not_isAt hp)).mono ?_
    rintro e w' ⟨rfl, rfl⟩
    rw [if_neg hp]
    exact ⟨by unfold errOf; rw [if_neg hp], rfl⟩
theorem wear_any (h : PMem w b g M) (i : Int) :
    Calls Tryd.prog 27 #[.pointer (some ⟨b, 0, none⟩), .int .i64 i] w fun e w' => e = .returned (errOf (isAt M i)) ∧ PMem w' b g (if isAt M i then upd Sec.wear M i else M) ∧ w.grownBy w' (some g) := by
  by_cases hp : isAt M i
  · obtain ⟨k, s, rfl, hs, hu⟩ := isAt_get hp
    refine (wear_in h k s hs).mono ?_
    rintro e w' ⟨rfl, h1, h2⟩
    rw [if_pos hp, hu]
    exact ⟨by unfold errOf; rw [if_pos hp], h1, h2⟩
  · refine (wear_out h i (not_isAt hp)).mono ?_
    rintro e w' ⟨rfl, rfl⟩
    rw [if_neg hp]
    exact ⟨by unfold errOf; rw [if_neg hp], h, grown_refl _ _⟩
end
end Go.Proofs.YtgdpgiegiacepaaDoor
namespace Go.Proofs.YtgdpgiegiacepaaDoor
open Go.RowKit Go.Shelf

theorem settle_none {now before fresh : ByteArray} {dirty worn : Bool} : Sec.settle ⟨now, before, fresh, dirty, worn⟩ 0 = ⟨now, before, ⟨#[]⟩, false, worn⟩ := by
  unfold Sec.settle; rw [if_neg (by omega)]
theorem settle_some {now before fresh : ByteArray} {dirty worn : Bool} {n : Nat} (h : 0 < n) (hz : now.size = 64) : Sec.settle ⟨now, before, fresh, dirty, worn⟩ n = ⟨fresh.extract 0 n ++ now.extract n 64, now, ⟨#[]⟩, false, worn⟩ := by
  unfold Sec.settle; rw [if_pos h]; simp only; rw [hz]
theorem settle_full {now before fresh : ByteArray} {dirty worn : Bool} (h : now.size = 64) : Sec.settle ⟨now, before, fresh, dirty, worn⟩ 64 = ⟨fresh.extract 0 64, now, ⟨#[]⟩, false, worn⟩ := by
  unfold Sec.settle
  rw [if_pos (by omega)]
  have e : now.extract 64 now.size = ⟨#[]⟩ := by
    rw [h]
    apply ByteArray.ext
    simp []
  have e2 : fresh.extract 0 64 ++ (⟨#[]⟩ : ByteArray) = fresh.extract 0 64 := by
    apply ByteArray.ext
    simp [ByteArray.data_append]
  simp only
  rw [e, e2]
theorem idxs_at {p : Sec → Bool} {M : List Sec} {i : Nat} (h : i ∈ idxs p M) : ∃ s, M[i]? = some s ∧ p s = true := by
  unfold idxs at h
  generalize hn : M.length = n at h
  have : ∀ n, i ∈ upto (fun i => ((M[i]?).map p).getD false) n → ((M[i]?).map p).getD false = true := by
    intro n
    induction n with
    | zero => intro h; simp [upto_zero] at h
    | succ n ih =>
      intro h
      cases hb : ((M[n]?).map p).getD false
      · rw [upto_no _ n hb] at h; exact ih h
      · rw [upto_yes _ n hb] at h
        rcases List.mem_append.1 h with h | h
        · exact ih h
        · simp at h; rw [h]; exact hb
  have h2 := this n h
  cases hs : M[i]? with
  | none => rw [hs] at h2; simp at h2
  | some s => rw [hs] at h2; exact ⟨s, rfl, by simpa using h2⟩
theorem upto_nodup (P0 : Nat → Bool) : ∀ n, (upto P0 n).Nodup
  | 0 => by simp [upto_zero]
  | n + 1 => by
    cases hb : P0 n
    · rw [upto_no P0 n hb]; exact upto_nodup P0 n
    · rw [upto_yes P0 n hb, List.nodup_append]
      refine ⟨upto_nodup P0 n, by simp, ?_⟩
      intro a ha c hc e
      simp at hc; subst hc; subst e
      exact absurd (upto_lt P0 _ _ ha) (by omega)
/-- A sector with contents of 64 bytes. -/
def Sec.fine (s : Sec) : Prop := s.now.size = 64 ∧ s.before.size = 64 ∧ (s.dirty = true → s.fresh.size = 64)
theorem fine_set {M : List Sec} (h : Fine M) {i : Nat} {s : Sec} (hs : s.fine) : Fine (M.set i s) := by
  intro x hx
  rcases List.mem_or_eq_of_mem_set hx with h1 | rfl
  · exact h x h1
  · exact hs
theorem fine_upd {M : List Sec} (h : Fine M) {f : Sec → Sec} (hf : ∀ s : Sec, s.fine → (f s).fine) {i : Int} (hi : isAt M i) : Fine (upd f M i) := by
  obtain ⟨k, s, rfl, hs, hu⟩ := isAt_get hi
  rw [hu]
  exact fine_set h (hf s (h s (List.mem_of_getElem? hs)))
theorem fine_settle {s : Sec} (h : s.fine) (hd : s.dirty = true) {n : Nat} (hn : n ≤ 64) : (s.settle n).fine := by
  obtain ⟨now, before, fresh, dirty, worn⟩ := s
  obtain ⟨h1, h2, h3⟩ := h
  have h4 := h3 hd
  dsimp only at h1 h2 h4
  rcases Nat.eq_zero_or_pos n with rfl | hp
  · rw [settle_none]; exact ⟨h1, h2, fun e => by cases e⟩
  · rw [settle_some hp h1]
    refine ⟨?_, h1, fun e => by cases e⟩
    show (fresh.extract 0 n ++ now.extract n 64).size = 64
    rw [ByteArray.size_append, ByteArray.size_extract, ByteArray.size_extract, h1, h4]
    omega
theorem fine_doneM {M : List Sec} (h : Fine M) (cnt : Nat → Nat) (hc : ∀ j, cnt j ≤ 64) : ∀ (n : Nat) (pre : List Nat), pre.length = n → (∀ i ∈ pre, ∃ s, M[i]? = some s ∧ s.dirty = true) → Fine (doneM cnt M pre)
  | 0, pre, hl, _ => by rw [List.eq_nil_of_length_eq_zero hl, doneM_nil]; exact h
  | n + 1, pre, hl, hp => by
    have hne : pre ≠ [] := by intro e; rw [e] at hl; simp at hl
    rw [← List.dropLast_concat_getLast hne, doneM_snoc]
    obtain ⟨s, hs, hd⟩ := hp _ (List.getLast_mem hne)
    refine fine_set (fine_doneM h cnt hc n _ (by simp [hl]) (fun i hi => hp i (List.dropLast_subset _ hi))) ?_
    rw [List.getD, hs]
    exact fine_settle (h s (List.mem_of_getElem? hs)) hd (hc _)
theorem fine_load {M : List Sec} {I : List ByteArray} (h : wrongs I = false) : Fine (loadM I M) := by
  intro s hs
  unfold loadM at hs
  obtain ⟨k, hk⟩ := List.mem_iff_getElem?.1 hs
  rw [List.getElem?_zipWith] at hk
  cases ht : I[k]? with
  | none => rw [ht] at hk; simp at hk
  | some t =>
    cases hm : M[k]? with
    | none => rw [ht, hm] at hk; simp at hk
    | some m =>
      rw [ht, hm] at hk
      simp at hk
      subst hk
      have h64 : t.size = 64 := by
        unfold wrongs at h
        rw [List.any_eq_false] at h
        have := h t (List.mem_of_getElem? ht)
        simp at this
        omega
      exact ⟨h64, h64, fun e => by cases e⟩

theorem upd_len (f : Sec → Sec) (M : List Sec) (i : Int) : (upd f M i).length = M.length := by simp [upd]
end Go.Proofs.YtgdpgiegiacepaaDoor
namespace Go.Proofs.YtgdpgiegiacepaaDoor

structure Dev where
  slots : List ByteArray
  fuses : List Bool
  counter : Int
  clock : Int
  M : List Sec
  down : Bool
  left : Int

/-- One step: the error's number, the new device. -/
def Dev.dstep (D : Dev) (check : Int) (f : Dev → Dev) : Int × Dev :=
  if D.down = true then (14, D)
  else if check ≠ 0 then (check, D)
  else if D.left = 0 then (14, { D with down := true, left := -1 })
  else (0, f { D with left := max (D.left - 1) (-1) })

/-- The text of an operation. -/
def dtext (fill : Nat) (short : Bool) (n : Nat) : ByteArray :=
  ⟨((List.range (if short then n - 1 else n)).map fun i => UInt8.ofNat (fill + i % 5)).toArray⟩
def zero32 : ByteArray := ⟨(List.replicate 32 (0 : UInt8)).toArray⟩

structure DOp where
  kind : Int
  a : Int
  b : Int
  fill : Nat
  short : Bool
  picks : List Int

/-- What an operation answers. -/
structure DRes where
  text : ByteArray
  e : Int

def chk (p : Prop) [Decidable p] : Int := if p then 0 else 1
def inS {α : Type} (l : List α) (i : Int) : Prop := 0 ≤ i ∧ i < l.length
instance {α : Type} (l : List α) (i : Int) : Decidable (inS l i) := inferInstanceAs (Decidable (_ ∧ _))

/-- The answer of a step. -/
def pack (r : Int × Dev) (img : List ByteArray) : DRes × Dev × List ByteArray := (⟨⟨#[]⟩, r.1⟩, r.2, img)
/-- One operation of a script: the answer, the new device, the new image. -/
def dplay (o : DOp) (D : Dev) (img : List ByteArray) : DRes × Dev × List ByteArray :=
  if o.kind = 1 then (if D.down then ⟨⟨#[]⟩, 14⟩ else if isAt D.M o.a then ⟨(D.M.getD o.a.toNat default).seen, 0⟩ else ⟨⟨#[]⟩, 1⟩, D, img)
  else if o.kind = 2 then pack (D.dstep (chk (isAt D.M o.a ∧ (dtext o.fill o.short 64).size = 64)) fun D => { D with M := upd (fun s => s.write (dtext o.fill o.short 64)) D.M o.a }) img
  else if o.kind = 3 then pack (D.dstep 0 fun D => { D with M := doneM (fun _ => 64) D.M (idxs Sec.dirty D.M) }) img
  else if o.kind = 4 then (if D.down then ⟨⟨#[]⟩, 14⟩ else if inS D.slots o.a then ⟨D.slots.getD o.a.toNat ⟨#[]⟩, 0⟩ else ⟨⟨#[]⟩, 1⟩, D, img)
  else if o.kind = 5 then pack (D.dstep (chk (inS D.slots o.a ∧ (dtext o.fill o.short 32).size = 32)) fun D => { D with slots := D.slots.set o.a.toNat (dtext o.fill o.short 32) }) img
  else if o.kind = 6 then pack (D.dstep (chk (inS D.fuses o.a)) fun D => { D with fuses := D.fuses.set o.a.toNat true }) img
  else if o.kind = 7 then pack (D.dstep (if 0 ≤ o.a ∧ o.a ≤ 4611686018427387904 then (if o.a < D.counter then 20 else 0) else 1) fun D => { D with counter := o.a }) img
  else if o.kind = 8 then
    if o.a < 0 ∨ 1099511627776 - D.clock < o.a then (⟨⟨#[]⟩, 1⟩, D, img) else (⟨⟨#[]⟩, 0⟩, { D with clock := D.clock + o.a }, img)
  else if o.kind = 9 then (⟨⟨#[]⟩, 0⟩, { D with left := max o.a (-1) }, img)
  else if o.kind = 10 then (⟨⟨#[]⟩, 0⟩, { D with M := doneM (pick o.picks) D.M (idxs Sec.dirty D.M), down := false, left := -1 }, img)
  else if o.kind = 11 then (⟨⟨#[]⟩, 0⟩, { D with slots := List.replicate D.slots.length zero32 }, img)
  else if o.kind = 12 then (⟨⟨#[]⟩, chk (isAt D.M o.a)⟩, { D with M := if isAt D.M o.a then upd Sec.stale D.M o.a else D.M }, img)
  else if o.kind = 13 then (⟨⟨#[]⟩, chk (isAt D.M o.a)⟩, { D with M := if isAt D.M o.a then upd Sec.wear D.M o.a else D.M }, img)
  else if o.kind = 14 then (⟨⟨#[]⟩, 0⟩, D, D.M.map Sec.now)
  else if o.kind = 15 then (⟨⟨#[]⟩, if loadErr img D.M then 1 else 0⟩, { D with M := if loadErr img D.M then D.M else loadM img D.M }, img)
  else (⟨⟨#[]⟩, 0⟩, D, img)
end Go.Proofs.YtgdpgiegiacepaaDoor
namespace Go.Proofs.YtgdpgiegiacepaaDoor
open Go.RowKit Go.Shelf
attribute [local go_sem] Oper.semAt_some

def boolCells (l : List Bool) : List Value := l.map Value.bool

/-- A device: block d; its memory behind b and g; its slots and fuses. -/
structure IsDev (w : World) (d b g sb sc fb fc : Nat) (D : Dev) : Prop where
  blk : Blk w d 68 #[.slice (some ⟨sb, 0, none⟩) D.slots.length sc, .slice (some ⟨fb, 0, none⟩) D.fuses.length fc, .int .i64 D.counter, .int .i64 D.clock, .pointer (some ⟨b, 0, none⟩), .bool D.down, .int .i64 D.left]
  mem : PMem w b g D.M
  srow : w.ownsRow 0 9 1 (.slice (some ⟨sb, 0, none⟩) D.slots.length sc) D.slots.length (strCells D.slots)
  frow : w.ownsRow 0 4 1 (.slice (some ⟨fb, 0, none⟩) D.fuses.length fc) D.fuses.length (boolCells D.fuses)

section
variable {w : World} {d b g sb sc fb fc : Nat} {D : Dev}
theorem IsDev.cells (h : IsDev w d b g sb sc fb fc D) : w.cell? ⟨d, 0, none⟩ = some (.slice (some ⟨sb, 0, none⟩) D.slots.length sc) ∧ w.cell? ⟨d, 1, none⟩ = some (.slice (some ⟨fb, 0, none⟩) D.fuses.length fc) ∧ w.cell? ⟨d, 2, none⟩ = some (.int .i64 D.counter) ∧ w.cell? ⟨d, 3, none⟩ = some (.int .i64 D.clock) ∧
    w.cell? ⟨d, 4, none⟩ = some (.pointer (some ⟨b, 0, none⟩)) ∧ w.cell? ⟨d, 5, none⟩ = some (.bool D.down) ∧ w.cell? ⟨d, 6, none⟩ = some (.int .i64 D.left) :=
  ⟨h.blk.cell 0, h.blk.cell 1, h.blk.cell 2, h.blk.cell 3, h.blk.cell 4, h.blk.cell 5, h.blk.cell 6⟩

set_option maxRecDepth 100000 in
theorem Sectors_any (h : IsDev w d b g sb sc fb fc D) : Calls Tryd.prog 29 #[.pointer (some ⟨d, 0, none⟩)] w fun e w' => e = .returned (.int .i64 D.M.length) ∧ w = w' := by
  obtain ⟨c0, c1, c2, c3, c4, c5, c6⟩ := h.cells
  have HL := Lib.hid (len_any h.mem)
  go_enter Tryd.func29, Tryd.ntmps29
  go_wp2_with (first | (go_at_call 52; refine HL.out.mono ?_; rintro e w1 ⟨rfl, rfl⟩))
  go_ret
  exact ⟨rfl, rfl⟩
set_option maxRecDepth 100000 in
theorem valid_any (w : World) (x : Bool) : Calls Tryd.prog 65 #[.bool x] w fun e w' => e = .returned (.int .i64 (if x = true then 0 else 1)) ∧ w = w' := by
  cases x with
  | true =>
    go_enter Tryd.func65, Tryd.ntmps65
    go_wp2_with fail
    go_ret
    exact ⟨rfl, rfl⟩
  | false =>
    go_enter Tryd.func65, Tryd.ntmps65
    go_wp2_with fail
    go_ret
    exact ⟨rfl, rfl⟩
end
end Go.Proofs.YtgdpgiegiacepaaDoor
namespace Go.Proofs.YtgdpgiegiacepaaDoor
open Go.RowKit Go.Shelf
attribute [local go_sem] Oper.semAt_some

section
variable {w : World} {d b g sb sc fb fc : Nat} {D : Dev}
set_option maxRecDepth 100000 in
theorem step_down (h : IsDev w d b g sb sc fb fc D) (hd : D.down = true) (check : Int) (v : Value) :
    Calls Tryd.prog 64 #[.pointer (some ⟨d, 0, none⟩), .int .i64 check, v] w fun e w' => e = .returned (.int .i64 14) ∧ w = w' := by
  obtain ⟨c0, c1, c2, c3, c4, c5, c6⟩ := h.cells
  rw [hd] at c5
  clear hd
  go_enter Tryd.func64, Tryd.ntmps64
  go_wp2_with fail
  go_ret
  exact ⟨rfl, rfl⟩
set_option maxRecDepth 100000 in
theorem step_chk (h : IsDev w d b g sb sc fb fc D) (hd : D.down = false) (check : Int) (hc : check ≠ 0) (v : Value) :
    Calls Tryd.prog 64 #[.pointer (some ⟨d, 0, none⟩), .int .i64 check, v] w fun e w' => e = .returned (.int .i64 check) ∧ w = w' := by
  obtain ⟨c0, c1, c2, c3, c4, c5, c6⟩ := h.cells
  rw [hd] at c5
  have hb : (check == 0) = false := beq_f hc
  clear hd hc
  go_enter Tryd.func64, Tryd.ntmps64
  go_wp2_with fail
  go_ret
  exact ⟨rfl, rfl⟩
theorem IsDev.scal {w' : World} {D' : Dev} (h : IsDev w d b g sb sc fb fc D) (hg : w.grownBy w' (some d)) (e1 : D'.slots = D.slots) (e2 : D'.fuses = D.fuses) (e3 : D'.M = D.M)
    (hb : Blk w' d 68 #[.slice (some ⟨sb, 0, none⟩) D.slots.length sc, .slice (some ⟨fb, 0, none⟩) D.fuses.length fc, .int .i64 D'.counter, .int .i64 D'.clock, .pointer (some ⟨b, 0, none⟩), .bool D'.down, .int .i64 D'.left]) : IsDev w' d b g sb sc fb fc D' := by
  obtain ⟨cap, cur, hbb, hgb, _⟩ := h.mem.body
  have n1 := hbb.ne_ h.blk (by decide)
  have n2 := hgb.ne_ h.blk (by decide)
  refine ⟨by rw [e1, e2]; exact hb, by rw [e3]; exact h.mem.grown hg (fun e => n1 (by cases e; rfl)) (fun e => n2 (by cases e; rfl)), ?_, ?_⟩
  · rw [e1]; exact h.srow.kept hg (.inr (own_blk_ne h.srow h.blk (by decide)))
  · rw [e2]; exact h.frow.kept hg (.inr (own_blk_ne h.frow h.blk (by decide)))
set_option maxRecDepth 100000 in
set_option maxHeartbeats 4000000 in
theorem step_fail (h : IsDev w d b g sb sc fb fc D) (hd : D.down = false) (hl : D.left = 0) (v : Value) :
    Calls Tryd.prog 64 #[.pointer (some ⟨d, 0, none⟩), .int .i64 0, v] w fun e w' => e = .returned (.int .i64 14) ∧ IsDev w' d b g sb sc fb fc { D with down := true, left := -1 } ∧ w.grownBy w' (some d) := by
  have hf := h.blk.frozen
  obtain ⟨c0, c1, c2, c3, c4, c5, c6⟩ := h.cells
  rw [hd] at c5
  rw [hl] at c6
  have H := Lib.hid h
  clear hd hl h
  go_enter Tryd.func64, Tryd.ntmps64
  go_wp2_with fail
  go_ret
  have hg := grown_trans (grown_set w d 5 (.bool true)) (grown_set (w.setCell ⟨d, 5, none⟩ (.bool true)) d 6 (.int .i64 (-1)))
  exact ⟨rfl, H.out.scal hg rfl rfl rfl ((H.out.blk.set_ 5 (.bool true)).set_ 6 (.int .i64 (-1))), hg⟩
/-- The number of steps that are left behind a step. -/
def leftNext (l : Int) : Int := max (l - 1) (-1)
set_option maxRecDepth 100000 in
set_option maxHeartbeats 4000000 in
theorem step_ok {Q : World → Prop} (h : IsDev w d b g sb sc fb fc D) (hd : D.down = false) (hl : D.left ≠ 0) (hr : -1 ≤ D.left ∧ D.left ≤ 9223372036854775807) (fi : Nat) (caps : Array Value) (eg : ∀ args w, (callFunc fi args).run Tryd.prog w = .ok (.enter fi args) w)
    (HC : ∀ w2, IsDev w2 d b g sb sc fb fc { D with left := leftNext D.left } → w.grownBy w2 (some d) → Calls Tryd.prog fi caps w2 fun e w' => e = .returned (.tuple #[]) ∧ Q w') :
    Calls Tryd.prog 64 #[.pointer (some ⟨d, 0, none⟩), .int .i64 0, .func (.func fi) #[] caps] w fun e w' => e = .returned (.int .i64 0) ∧ Q w' := by
  have hf := h.blk.frozen
  obtain ⟨c0, c1, c2, c3, c4, c5, c6⟩ := h.cells
  rw [hd] at c5
  have hb : (D.left == 0) = false := beq_f hl
  have hw64 : wrap64 (D.left - 1) = D.left - 1 := by unfold wrap64; omega
  have H := Lib.hid h
  have Hc := Lib.hid HC
  clear hd hl h hr HC
  go_enter Tryd.func64, Tryd.ntmps64
  go_wp2_with fail
  have hg := grown_set w d 6 (.int .i64 (leftNext D.left))
  have hD : IsDev (w.setCell ⟨d, 6, none⟩ (.int .i64 (leftNext D.left))) d b g sb sc fb fc { D with left := leftNext D.left } := H.out.scal hg rfl rfl rfl (by
    have := H.out.blk.set_ 6 (.int .i64 (leftNext D.left))
    exact this)
  refine (Hc.out _ hD hg).mono ?_
  rintro e w' ⟨rfl, hQ⟩
  have HQ := Lib.hid hQ
  clear hQ
  go_wp2_with fail
  go_ret
  exact ⟨rfl, HQ.out⟩
end
end Go.Proofs.YtgdpgiegiacepaaDoor
namespace Go.Proofs.YtgdpgiegiacepaaDoor

/-- Nothing goes back from D to E. -/
structure Fwd (D E : Dev) : Prop where
  counter : D.counter ≤ E.counter
  clock : D.clock ≤ E.clock
  fuses : E.fuses.length = D.fuses.length
  slots : E.slots.length = D.slots.length
  M : E.M.length = D.M.length
  burned : ∀ i : Nat, D.fuses[i]? = some true → E.fuses[i]? = some true

theorem Fwd.refl (D : Dev) : Fwd D D := ⟨Int.le_refl _, Int.le_refl _, rfl, rfl, rfl, fun _ h => h⟩
theorem dstep_fwd (D : Dev) (c : Int) (f : Dev → Dev) (h : c = 0 → ∀ l : Int, Fwd D (f { D with left := l })) : Fwd D (D.dstep c f).2 := by
  unfold Dev.dstep
  split
  · exact Fwd.refl D
  · split
    · exact Fwd.refl D
    · rename_i hc
      split
      · exact ⟨Int.le_refl _, Int.le_refl _, rfl, rfl, rfl, fun _ h => h⟩
      · exact h (by omega) _
theorem dplay_fwd (o : DOp) (D : Dev) (img : List ByteArray) : Fwd D (dplay o D img).2.1 := by
  unfold dplay
  by_cases k1 : o.kind = 1
  · rw [if_pos k1]; exact Fwd.refl D
  rw [if_neg k1]
  by_cases k2 : o.kind = 2
  · rw [if_pos k2]
    refine dstep_fwd D _ _ (fun _ l => ?_)
    exact ⟨Int.le_refl _, Int.le_refl _, rfl, rfl, by simp [upd], fun _ h => h⟩
  rw [if_neg k2]
  by_cases k3 : o.kind = 3
  · rw [if_pos k3]
    refine dstep_fwd D _ _ (fun _ l => ?_)
    exact ⟨Int.le_refl _, Int.le_refl _, rfl, rfl, by simp [doneM_len], fun _ h => h⟩
  rw [if_neg k3]
  by_cases k4 : o.kind = 4
  · rw [if_pos k4]; exact Fwd.refl D
  rw [if_neg k4]
  by_cases k5 : o.kind = 5
  · rw [if_pos k5]
    refine dstep_fwd D _ _ (fun _ l => ?_)
    exact ⟨Int.le_refl _, Int.le_refl _, rfl, by simp, rfl, fun _ h => h⟩
  rw [if_neg k5]
  by_cases k6 : o.kind = 6
  · rw [if_pos k6]
    refine dstep_fwd D _ _ (fun _ l => ?_)
    refine ⟨Int.le_refl _, Int.le_refl _, by simp, rfl, rfl, fun i h => ?_⟩
    dsimp only
    by_cases hi : o.a.toNat = i
    · subst hi
      rw [List.getElem?_set_self (List.getElem?_eq_some_iff.1 h).1]
    · rw [List.getElem?_set_ne hi]
      exact h
  rw [if_neg k6]
  by_cases k7 : o.kind = 7
  · rw [if_pos k7]
    refine dstep_fwd D _ _ (fun hc l => ?_)
    refine ⟨?_, Int.le_refl _, rfl, rfl, rfl, fun _ h => h⟩
    dsimp only
    by_cases h1 : 0 ≤ o.a ∧ o.a ≤ 4611686018427387904
    · rw [if_pos h1] at hc
      by_cases h2 : o.a < D.counter
      · rw [if_pos h2] at hc; omega
      · omega
    · rw [if_neg h1] at hc; omega
  rw [if_neg k7]
  by_cases k8 : o.kind = 8
  · rw [if_pos k8]
    by_cases h : o.a < 0 ∨ 1099511627776 - D.clock < o.a
    · rw [if_pos h]; exact Fwd.refl D
    · rw [if_neg h]
      exact ⟨Int.le_refl _, by dsimp only; omega, rfl, rfl, rfl, fun _ h => h⟩
  rw [if_neg k8]
  by_cases k9 : o.kind = 9
  · rw [if_pos k9]; exact ⟨Int.le_refl _, Int.le_refl _, rfl, rfl, rfl, fun _ h => h⟩
  rw [if_neg k9]
  by_cases k10 : o.kind = 10
  · rw [if_pos k10]; exact ⟨Int.le_refl _, Int.le_refl _, rfl, rfl, by simp [doneM_len], fun _ h => h⟩
  rw [if_neg k10]
  by_cases k11 : o.kind = 11
  · rw [if_pos k11]; exact ⟨Int.le_refl _, Int.le_refl _, rfl, by simp, rfl, fun _ h => h⟩
  rw [if_neg k11]
  by_cases k12 : o.kind = 12
  · rw [if_pos k12]
    refine ⟨Int.le_refl _, Int.le_refl _, rfl, rfl, ?_, fun _ h => h⟩
    dsimp only
    split <;> simp [upd]
  rw [if_neg k12]
  by_cases k13 : o.kind = 13
  · rw [if_pos k13]
    refine ⟨Int.le_refl _, Int.le_refl _, rfl, rfl, ?_, fun _ h => h⟩
    dsimp only
    split <;> simp [upd]
  rw [if_neg k13]
  by_cases k14 : o.kind = 14
  · rw [if_pos k14]; exact Fwd.refl D
  rw [if_neg k14]
  by_cases k15 : o.kind = 15
  · rw [if_pos k15]
    refine ⟨Int.le_refl _, Int.le_refl _, rfl, rfl, ?_, fun _ h => h⟩
    dsimp only
    split
    · rfl
    · rename_i h
      have hf : loadErr img D.M = false := by simpa using h
      unfold loadErr at hf
      exact loadM_len _ _ (by simp at hf; omega)
  rw [if_neg k15]
  exact Fwd.refl D
end Go.Proofs.YtgdpgiegiacepaaDoor
namespace Go.Proofs.YtgdpgiegiacepaaDoor
open Go.RowKit Go.Shelf
attribute [local go_sem] Oper.semAt_some

/-- What an operation on a device leaves of the other blocks. -/
structure DFr (w w' : World) (d g sb fb : Nat) : Prop where
  os : w'.os = w.os
  tape : w'.tape = w.tape
  output : w'.output = w.output
  size : w.heap.size ≤ w'.heap.size
  rest : ∀ k, k < w.heap.size → k ≠ d → k ≠ g → k ≠ sb → k ≠ fb → w'.heap[k]? = w.heap[k]?

section
variable {w w' w2 : World} {d b g sb sc fb fc : Nat} {D : Dev}
theorem DFr.refl (w : World) : DFr w w d g sb fb := ⟨rfl, rfl, rfl, Nat.le_refl _, fun _ _ _ _ _ _ => rfl⟩
theorem DFr.trans (h : DFr w w' d g sb fb) (k : DFr w' w2 d g sb fb) : DFr w w2 d g sb fb :=
  ⟨k.os.trans h.os, k.tape.trans h.tape, k.output.trans h.output, Nat.le_trans h.size k.size, fun i hi h1 h2 h3 h4 => (k.rest i (Nat.lt_of_lt_of_le hi h.size) h1 h2 h3 h4).trans (h.rest i hi h1 h2 h3 h4)⟩
theorem DFr.ofGrown {r : Nat} (hg : w.grownBy w' (some r)) (hr : r = d ∨ r = g ∨ r = sb ∨ r = fb) : DFr w w' d g sb fb :=
  ⟨hg.os, hg.tape, hg.output, hg.size, fun k hk h1 h2 h3 h4 => hg.block k hk (fun e => by cases e; rcases hr with h | h | h | h <;> (subst h; first | exact h1 rfl | exact h2 rfl | exact h3 rfl | exact h4 rfl))⟩
theorem DFr.ofBelow (hB : Below w.heap.size w w') : DFr w w' d g sb fb := ⟨hB.os, hB.tape, hB.output, hB.size, fun k hk _ _ _ _ => hB.block k hk⟩
theorem DFr.below {B : Nat} {w0 : World} (h : DFr w w' d g sb fb) (hB : Below B w0 w) (hw : B ≤ w.heap.size) (h1 : B ≤ d) (h2 : B ≤ g) (h3 : B ≤ sb) (h4 : B ≤ fb) : Below B w0 w' :=
  ⟨h.os.trans hB.os, h.tape.trans hB.tape, h.output.trans hB.output, Nat.le_trans hB.size h.size, fun k hk => (h.rest k (by omega) (by omega) (by omega) (by omega) (by omega)).trans (hB.block k hk)⟩

/-- The memory has turned. -/
theorem IsDev.turn {M2 : List Sec} (h : IsDev w d b g sb sc fb fc D) (hM : PMem w' b g M2) (hg : w.grownBy w' (some g)) : IsDev w' d b g sb sc fb fc { D with M := M2 } := by
  obtain ⟨cap, cur, _, hgb, _⟩ := h.mem.body
  exact ⟨h.blk.grown hg (fun e => h.blk.ne_ hgb (by decide) (by cases e; rfl)), hM, h.srow.kept hg (.inr (own_blk_ne h.srow hgb (by decide))), h.frow.kept hg (.inr (own_blk_ne h.frow hgb (by decide)))⟩
theorem IsDev.below (h : IsDev w d b g sb sc fb fc D) (hB : Below w.heap.size w w') : IsDev w' d b g sb sc fb fc D :=
  ⟨h.blk.below hB h.blk.lt, h.mem.below hB h.mem.lt.1 h.mem.lt.2, ownsRow_below h.srow hB (Nat.le_refl _), ownsRow_below h.frow hB (Nat.le_refl _)⟩

theorem step_any (h : IsDev w d b g sb sc fb fc D) (hr : -1 ≤ D.left ∧ D.left ≤ 9223372036854775807) (check : Int) (fi : Nat) (caps : Array Value) (eg : ∀ args w, (callFunc fi args).run Tryd.prog w = .ok (.enter fi args) w) (f : Dev → Dev)
    (HC : check = 0 → ∀ w2, IsDev w2 d b g sb sc fb fc { D with left := leftNext D.left } → w.grownBy w2 (some d) → Calls Tryd.prog fi caps w2 fun e w' => e = .returned (.tuple #[]) ∧ IsDev w' d b g sb sc fb fc (f { D with left := leftNext D.left }) ∧ DFr w2 w' d g sb fb) :
    Calls Tryd.prog 64 #[.pointer (some ⟨d, 0, none⟩), .int .i64 check, .func (.func fi) #[] caps] w fun e w' => e = .returned (.int .i64 (D.dstep check f).1) ∧ IsDev w' d b g sb sc fb fc (D.dstep check f).2 ∧ DFr w w' d g sb fb := by
  unfold Dev.dstep
  by_cases hd : D.down = true
  · rw [if_pos hd]
    refine (step_down h hd check _).mono ?_
    rintro e w' ⟨rfl, rfl⟩
    exact ⟨rfl, h, DFr.refl _⟩
  · rw [if_neg hd]
    have hd' : D.down = false := by simpa using hd
    by_cases hc : check ≠ 0
    · rw [if_pos hc]
      refine (step_chk h hd' check hc _).mono ?_
      rintro e w' ⟨rfl, rfl⟩
      exact ⟨rfl, h, DFr.refl _⟩
    · rw [if_neg hc]
      have hc' : check = 0 := by simpa using hc
      subst hc'
      by_cases hl : D.left = 0
      · rw [if_pos hl]
        refine (step_fail h hd' hl _).mono ?_
        rintro e w' ⟨rfl, h1, h2⟩
        exact ⟨rfl, h1, DFr.ofGrown h2 (.inl rfl)⟩
      · rw [if_neg hl]
        refine (step_ok (Q := fun w' => IsDev w' d b g sb sc fb fc (f { D with left := leftNext D.left }) ∧ DFr w w' d g sb fb) h hd' hl hr fi caps eg (fun w2 h1 h2 => (HC rfl w2 h1 h2).mono ?_)).mono ?_
        · rintro e w' ⟨rfl, h3, h4⟩
          exact ⟨rfl, h3, (DFr.ofGrown h2 (.inl rfl)).trans h4⟩
        · rintro e w' ⟨rfl, h3, h4⟩
          exact ⟨rfl, h3, h4⟩

/-- The closures' entries. -/
theorem eg_write (args : Array Value) (w : World) : (callFunc 66 args).run Tryd.prog w = .ok (.enter 66 args) w := by simp [go_sem]
end
end Go.Proofs.YtgdpgiegiacepaaDoor
namespace Go.Proofs.YtgdpgiegiacepaaDoor
open Go.RowKit Go.Shelf
attribute [local go_sem] Oper.semAt_some

section
variable {w : World} {d b g sb sc fb fc : Nat} {D : Dev}
set_option maxRecDepth 100000 in
set_option maxHeartbeats 4000000 in
theorem write1_any (h : IsDev w d b g sb sc fb fc D) (bd bi bt : Nat) (i : Int) (t : ByteArray) (k1 : Blk w bd 24 #[.pointer (some ⟨d, 0, none⟩)]) (k2 : Blk w bi 3 #[.int .i64 i]) (k3 : Blk w bt 9 #[.string t]) :
    Calls Tryd.prog 66 #[.pointer (some ⟨bd, 0, none⟩), .pointer (some ⟨bi, 0, none⟩), .pointer (some ⟨bt, 0, none⟩)] w fun e w' => e = .returned (.tuple #[]) ∧
      IsDev w' d b g sb sc fb fc { D with M := if isAt D.M i ∧ t.size = 64 then upd (fun s => s.write t) D.M i else D.M } ∧ w.grownBy w' (some g) := by
  have c4 := h.blk.cell 4
  have h1 := k1.cell 0
  have h2 := k2.cell 0
  have h3 := k3.cell 0
  obtain ⟨cap, cur, _, hgb, _⟩ := h.mem.body
  have hK : Hid (∀ w', w.drew.grownBy w' (some g) → Blk w' bd 24 #[.pointer (some ⟨d, 0, none⟩)] ∧ Blk w' bi 3 #[.int .i64 i] ∧ Blk w' bt 9 #[.string t] ∧ w'.cell? ⟨d, 4, none⟩ = some (.pointer (some ⟨b, 0, none⟩))) := fun w' hg =>
    ⟨k1.drew.grown hg (fun e => k1.ne_ hgb (by decide) (by cases e; rfl)), k2.drew.grown hg (fun e => k2.ne_ hgb (by decide) (by cases e; rfl)), k3.drew.grown hg (fun e => k3.ne_ hgb (by decide) (by cases e; rfl)), (h.blk.drew.grown hg (fun e => h.blk.ne_ hgb (by decide) (by cases e; rfl))).cell 4⟩
  have H := Lib.hid (h.below (Below.refl _ w).drew)
  have HW := Lib.hid (write_any H.out.mem i t)
  have HG := Lib.hid (grown_drewN w 1 (some g))
  generalize (if isAt D.M i ∧ t.size = 64 then upd (fun s => s.write t) D.M i else D.M) = M2 at HW ⊢
  generalize errOf (isAt D.M i ∧ t.size = 64) = ev at HW
  clear h k1 k2 k3 hgb
  go_enter Tryd.func66, Tryd.ntmps66
  go_wp2_with fail
  go_region_held3 (fun w' => w'.cell? ⟨bd, 0, none⟩ = some (.pointer (some ⟨d, 0, none⟩)) ∧ w'.cell? ⟨bi, 0, none⟩ = some (.int .i64 i) ∧ w'.cell? ⟨bt, 0, none⟩ = some (.string t) ∧ w'.cell? ⟨d, 4, none⟩ = some (.pointer (some ⟨b, 0, none⟩))) (go_keep)
    (first
    | (go_at_call 67; refine HW.out.mono ?_; rintro e w' ⟨rfl, hM, hg⟩; obtain ⟨j1, j2, j3, j4⟩ := hK.out _ hg; have x1 := j1.cell 0; have x2 := j2.cell 0; have x3 := j3.cell 0))
  go_wp2_with fail
  go_end0
  exact ⟨by simp, H.out.turn hM hg, grown_trans HG.out hg⟩
end
end Go.Proofs.YtgdpgiegiacepaaDoor
