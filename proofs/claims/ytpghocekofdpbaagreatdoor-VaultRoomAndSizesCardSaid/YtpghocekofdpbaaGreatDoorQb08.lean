import Derived.Test.YtpghocekofdpbaaGreatDoorQb06
import Derived.Test.YtpghocekofdpbaaGreatDoorQb00
import Derived.Test.YtpghocekofdpbaaGreatDoorQb07
import Derived.OwnWalk
import Derived.Laws.IdiomStrings
namespace Go.Proofs.YtpghocekofdpbaaGreatDoor
open Go.RowKit Go.Shelf
attribute [local go_sem] Oper.semAt_some
def zeros : ByteArray := ⟨(List.replicate 64 (0 : UInt8)).toArray⟩
theorem zeros_size : zeros.size = 64 := by decide
def Sec.blank : Sec := ⟨zeros, zeros, ⟨#[]⟩, false, false⟩
theorem ownsRow_slice {w : World} {base : Nat} {e : TypeId} {size : Nat} {v : Value} {n : Nat} {xs : List Value} (h : w.ownsRow base e size v n xs) : ∃ A c, v = .slice A n c := by
 rcases h.2 with ⟨rfl, rfl⟩ | ⟨g, cap, _, rfl, _⟩
 ·exact ⟨none, 0, rfl⟩
 ·exact ⟨_, _, rfl⟩
theorem mul_one (w : World) (n : Nat) (h : n <= 4096) : Calls Tryz.prog 129 #[.int .u64 1, .int .u64 n] w fun e w' => e = .returned (.tuple #[.int .u64 0, .int .u64 n]) /\ w = w' := by
 refine (Tryz.bits_Mul 1 n (by omega) (by omega) w).mono ?_
 rintro e w' ⟨rfl, rfl⟩
 refine ⟨?_, rfl⟩
 rw [Nat.one_mul, Nat.div_eq_of_lt (by omega), Nat.mod_eq_of_lt (by omega)]
 rfl
theorem infoSecSize : (Tryz.prog.info? 139).map (·.size) = some 5 := by kernel_rfl
def Row (w : World) (g n k : Nat) (s : Sec) : Prop := ∃ cur, Blk w g 139 cur /\ cur.size = n * 5 /\ cur.toList.take (k * 5) = memCells (List.replicate k s)
theorem copy_step {wr : World} {g n k m dCap sLen sCap : Nat} {s : Sec} {ad : Addr} (h : Row wr g n k s) (hm : Nat.min sLen (n - k) = m) (hkm : k + m <= n)
  (hsrc : ∀ j u, (memCells (List.replicate m s))[j]? = some u -> wr.cell? (ad.add j) = some u) :
  ∃ w2, (Builtin.copy_ #[135, 135] 3 #[.slice (some ⟨g, k * 5, none⟩) (n - k) dCap, .slice (some ad) sLen sCap]).run Tryz.prog wr = .ok (.int .i64 m) w2 /\ Row w2 g n (k + m) s /\ ∀ B w0, Below B w0 wr -> B <= g -> Below B w0 w2 := by
 obtain ⟨cur, hb, hsz, ht⟩ := h
 have hl : (memCells (List.replicate m s)).length = m * 5 := by rw [memCells_len, List.length_replicate]
 have hr := run_copy_rowN (P := Tryz.prog) wr 135 135 3 139 5 g (k * 5) (n - k) dCap ad sLen sCap cur 139 (memCells (List.replicate m s)) Tryz.underlying135 infoSecSize hb (by rw [hl, hm]) hsrc (by rw [hl, hsz]; omega) (memCells_one _)
 rw [hm] at hr
 refine ⟨_, hr, ⟨_, setRow_heap wr g _ _ _ _ hb, ?_, ?_⟩, fun B w0 hB hg => below_setRow hB hg _⟩
 ·have : cur.toList.length = n * 5 := by simpa using hsz
  simp [hl]; omega
 ·rw [show (cur.toList.take (k * 5) ++ memCells (List.replicate m s) ++ cur.toList.drop (k * 5 + (memCells (List.replicate m s)).length)).toArray.toList = cur.toList.take (k * 5) ++ memCells (List.replicate m s) ++ cur.toList.drop (k * 5 + (memCells (List.replicate m s)).length) from rfl, ht, <- memCells_app, List.replicate_append_replicate]
  rw [List.take_append_of_le_length (by rw [memCells_len, List.length_replicate]; omega), List.take_of_length_le (by rw [memCells_len, List.length_replicate]; omega)]
set_option maxRecDepth 100000 in
set_option maxHeartbeats 4000000 in
theorem slRepeat_any (w : World) (gb cap n : Nat) (s : Sec) (h1 : 1 <= n) (h2 : n <= 4096) (_hc : 1 <= cap) (_hcm : cap <= 4096) (hb : gb < w.heap.size) (hs : ∀ j u, (secCells s)[j]? = some u -> w.cell? ⟨gb, j, none⟩ = some u) :
  Calls Tryz.prog 115 #[.slice (some ⟨gb, 0, none⟩) 1 cap, .int .i64 n] w fun e w' => ∃ g, e = .returned (.slice (some ⟨g, 0, none⟩) n n) /\ w'.ownsRow w.heap.size 139 5 (.slice (some ⟨g, 0, none⟩) n n) n (memCells (List.replicate n s)) /\ Below w.heap.size w w' := by
 obtain ⟨i0, hi, hz0, hz1, hz2⟩ := info_parts infoSec
 have Hs := Lib.hid hs
 have Hmul := Lib.hid (mul_one w n h2)
 have e1 : IntKind.u64.wrap (n : Int) = n := by unfold IntKind.wrap; simp [IntKind.signed, IntKind.bits]; omega
 clear hs
 obtain ⟨w1, hmk, hr1, hg1⟩ := run_make_full (P := Tryz.prog) w w.heap.size 135 139 i0 _ 5 Tryz.underlying135 hi hz0 hz1 .i64 .i64 n (by rw [hz2]; omega) (by unfold maxLen; omega) (Nat.le_refl _)
 obtain ⟨cur, hbk, hcs⟩ : ∃ cur, Blk w1 w.heap.size 139 cur /\ cur.size = n * 5 := by
  rcases hr1.2 with ⟨_, h0⟩ | ⟨g, cap', cur, e, _, hb, _, _, hsz, _⟩
  ·omega
  ·cases e; exact ⟨cur, hb, hsz⟩
 have hB1 : Below w.heap.size w w1 := below_grown hg1
 clear hr1 hg1
 have hs1 : ∀ j u, (memCells (List.replicate 1 s))[j]? = some u -> w1.cell? ((⟨gb, 0, none⟩ : Addr).add j) = some u := by
  intro j u hu
  have e : (⟨gb, 0, none⟩ : Addr).add j = ⟨gb, j, none⟩ := by simp [Addr.add]; intro e; exact e.symm
  rw [e]
  exact (hB1.cell (p := ⟨gb, j, none⟩) hb).trans (Hs.out j u (by simpa [memCells] using hu))
 obtain ⟨w2, hcp, hrow, hB2⟩ := copy_step (wr := w1) (g := w.heap.size) (n := n) (k := 0) (m := 1) (dCap := n) (sLen := 1) (sCap := cap) (ad := ⟨gb, 0, none⟩) ⟨cur, hbk, hcs, by simp [memCells]⟩ (Nat.min_eq_left (by omega)) (by omega) hs1
 have hB2' := hB2 _ _ hB1 (Nat.le_refl _)
 rw [Nat.zero_mul, Nat.sub_zero] at hcp
 rw [Nat.zero_add] at hrow
 clear hs1 hbk hcs hB2
 go_enter Tryz.func115, Tryz.ntmps115
 go_wp2_with (go_at_call 129; refine Hmul.out.mono ?_; rintro e w' ⟨rfl, rfl⟩)
 go_loopw [8] (fun a wr => ∃ k : Nat, 1 <= k /\ k <= n /\ a = .int .i64 k /\ Row wr w.heap.size n k s /\ Below w.heap.size w wr) (fun a _ => n - (intOf a).toNat)
 case atStart => exact ⟨1, Nat.le_refl _, h1, rfl, hrow, hB2'⟩
 case round =>
  obtain ⟨k, hk1, hk, rfl, hR, hB⟩ := hrel
  clear hmk hcp hrow hB2' hB1 Hmul
  by_cases hkl : k < n
  ·have hsl1 : ∀ wx, (Instr.slice 135 (.slice (some ⟨w.heap.size, 0, none⟩) n n) (some (.int .i64 k)) none none).run Tryz.prog wx = .ok (.slice (some ⟨w.heap.size, k * 5, none⟩) (n - k) (n - k)) wx := by
    intro wx
    have e2 : ¬ n = k := by omega
    simp [go_sem, e2]
    omega
   have hsl2 : ∀ wx, (Instr.slice 135 (.slice (some ⟨w.heap.size, 0, none⟩) n n) none (some (.int .i64 k)) none).run Tryz.prog wx = .ok (.slice (some ⟨w.heap.size, 0, none⟩) k n) wx := by
    intro wx
    have e2 : ¬ n = k := by omega
    simp [go_sem]
    omega
   obtain ⟨m, hm⟩ : ∃ m, Nat.min k (n - k) = m := ⟨_, rfl⟩
   have hm1 : 1 <= m := by have : Nat.min k (n - k) = min k (n - k) := rfl; omega
   have hm2 : k + m <= n := by have : Nat.min k (n - k) = min k (n - k) := rfl; omega
   have hm3 : m <= k := by have : Nat.min k (n - k) = min k (n - k) := rfl; omega
   have hR2 : Row wr.drew w.heap.size n k s := hR
   obtain ⟨w3, hcp, hrow, hB3⟩ := copy_step (wr := wr.drew) (dCap := n - k) (sLen := k) (sCap := n) (ad := ⟨w.heap.size, 0, none⟩) hR2 hm hm2 (fun j u hu => by
    obtain ⟨cur, hb, hsz, ht⟩ := hR2
    have hj := (List.getElem?_eq_some_iff.1 hu).1
    rw [memCells_len, List.length_replicate] at hj
    have e : (⟨w.heap.size, 0, none⟩ : Addr).add j = ⟨w.heap.size, j, none⟩ := by simp [Addr.add]; intro e; exact e.symm
    rw [e, hb.cell, <- hu, <- Array.getElem?_toList, <- List.getElem?_take_of_lt (show j < k * 5 by omega), ht]
    obtain ⟨d, rfl⟩ : ∃ d, k = m + d := ⟨k - m, by omega⟩
    rw [<- List.replicate_append_replicate, memCells_app, List.getElem?_append_left (by rw [memCells_len, List.length_replicate]; exact hj)])
   have hB4 := hB3 _ _ hB.drew (Nat.le_refl _)
   clear hR hR2 hB3 hB hm
   go_wp2_with fail
   go_region
   go_wp2
   go_roundw
   case rel => exact ⟨k + m, by omega, hm2, by go_num, hrow, hB4⟩
   case measure => simp [intOf]; omega
  ·obtain rfl : k = n := by omega
   go_wp2_with fail
   go_ret
   obtain ⟨cur, hb, hsz, ht⟩ := hR
   exact ⟨_, rfl, ⟨by rw [memCells_len, List.length_replicate], .inr ⟨w.heap.size, k, cur, rfl, Nat.le_refl _, hb, Nat.le_refl _, by unfold maxLen; omega, hsz, ht⟩⟩, hB⟩
theorem New_bad (w : World) (n : Int) (h : n < 1 \/ 4096 < n) :
  Calls Tryz.prog 82 #[.int .i64 n] w fun e w' => e = .returned (.tuple #[.pointer none, .int .i64 1]) /\ w = w' := by
 by_cases h1 : n < 1
 ·clear h
  go_enter Tryz.func82, Tryz.ntmps82
  go_wp2_with fail
  go_ret2
  exact ⟨rfl, rfl⟩
 ·have h2 : 4096 < n := by omega
  clear h
  go_enter Tryz.func82, Tryz.ntmps82
  go_wp2_with fail
  go_ret2
  exact ⟨rfl, rfl⟩
theorem rep64 (w : World) : Calls Tryz.prog 95 #[.string ⟨#[0]⟩, .int .i64 64] w fun e w' => e = .returned (.string zeros) /\ Below w.heap.size w w' := by
 refine (Tryz.strings_Repeat ⟨#[0]⟩ 64 w (by omega) (by show 1 * 64 <= 140737488355328; omega)).mono ?_
 rintro e w' ⟨rfl, hB⟩
 refine ⟨?_, hB⟩
 have h : (⟨(Lib.repeatL (⟨#[0]⟩ : ByteArray).data.toList 64).toArray⟩ : ByteArray) = zeros := by kernel_rfl
 rw [h]
set_option maxRecDepth 100000 in
set_option maxHeartbeats 4000000 in
theorem New_ok (w : World) (n : Nat) (h1 : 1 <= n) (h2 : n <= 4096) :
  Calls Tryz.prog 82 #[.int .i64 n] w fun e w' => ∃ b g, e = .returned (.tuple #[.pointer (some ⟨b, 0, none⟩), .int .i64 0]) /\ w.heap.size <= b /\ w.heap.size <= g /\ PMem w' b g (List.replicate n Sec.blank) /\ Below w.heap.size w w' := by
 go_enter Tryz.func82, Tryz.ntmps82
 go_wp2_with (go_at_call 95; refine (rep64 _).mono ?_; rintro e w1 ⟨rfl, hB1⟩)
 have hB1s := hB1.size
 have hbk := Blk.new w1 139 #[.string zeros, .string zeros, .string ⟨#[]⟩, .bool false, .bool false]
 have hB2 : Below w.heap.size w (w1.alloc (.cells #[.string zeros, .string zeros, .string ⟨#[]⟩, .bool false, .bool false] 139)) := hB1.alloc hB1s _
 have hsz : (w1.alloc (.cells #[.string zeros, .string zeros, .string ⟨#[]⟩, .bool false, .bool false] 139)).heap.size = w1.heap.size + 1 := by simp
 generalize w1.alloc (.cells #[.string zeros, .string zeros, .string ⟨#[]⟩, .bool false, .bool false] 139) = w2 at hbk hB2 hsz ⊢
 have HR := Lib.hid (slRepeat_any w2 w1.heap.size 1 n Sec.blank h1 h2 (Nat.le_refl _) (by omega) (by omega) (fun j u hu => by rw [hbk.cell, <- Array.getElem?_toList]; exact hu))
 go_wp2_with (go_at_call 115; refine HR.out.mono ?_; rintro e w3 ⟨g, rfl, hrow, hB3⟩)
 go_ret2
 have hs3 := hB3.size
 have hB4 := (hB2.trans (hB3.mono (by omega))).alloc (by omega) (.cells #[.slice (some ⟨g, 0, none⟩) n n] 137)
 obtain ⟨g2, hg2, hM2⟩ := isMem_of_row (tM := 137) (M := List.replicate n Sec.blank) (by simp; omega) (by simpa using hrow.alloc (.cells #[.slice (some ⟨g, 0, none⟩) n n] 137)) (Blk.new w3 137 #[.slice (some ⟨g, 0, none⟩) n n]) (by decide)
 exact ⟨_, g2, rfl, by omega, by omega, hM2, hB4⟩
end Go.Proofs.YtpghocekofdpbaaGreatDoor
namespace Go.Proofs.YtpghocekofdpbaaGreatDoor
open Go.RowKit Go.Shelf
attribute [local go_sem] Oper.semAt_some
def isAt (M : List Sec) (i : Int) : Prop := 0 <= i /\ i < M.length
instance (M : List Sec) (i : Int) : Decidable (isAt M i) := inferInstanceAs (Decidable (_ /\ _))
def upd (f : Sec -> Sec) (M : List Sec) (i : Int) : List Sec := M.set i.toNat (f (M.getD i.toNat default))
def errOf (p : Prop) [Decidable p] : Value := .int .i64 (if p then 0 else 1)
theorem isAt_get {M : List Sec} {i : Int} (h : isAt M i) : ∃ (k : Nat) (s : Sec), i = (k : Int) /\ M[k]? = some s /\ ∀ f, upd f M i = M.set k (f s) := by
 obtain ⟨k, rfl⟩ := Int.eq_ofNat_of_zero_le h.1
 have hk : k < M.length := by have := h.2; omega
 refine ⟨k, M[k], rfl, List.getElem?_eq_getElem hk, fun f => ?_⟩
 unfold upd
 simp [List.getD, List.getElem?_eq_getElem hk]
theorem not_isAt {M : List Sec} {i : Int} (h : ¬ isAt M i) : i < 0 \/ (M.length : Int) <= i := by
 unfold isAt at h; omega
section
variable {w : World} {b g : Nat} {M : List Sec}
theorem write_any (h : PMem w b g M) (i : Int) (t : ByteArray) :
  Calls Tryz.prog 156 #[.pointer (some ⟨b, 0, none⟩), .int .i64 i, .string t] w fun e w' => e = .returned (errOf (isAt M i /\ t.size = 64)) /\ PMem w' b g (if isAt M i /\ t.size = 64 then upd (fun s => s.write t) M i else M) /\ w.grownBy w' (some g) := by
 by_cases hp : isAt M i /\ t.size = 64
 ·obtain ⟨k, s, rfl, hs, hu⟩ := isAt_get hp.1
  refine (write_in h k s t hs hp.2).mono ?_
  rintro e w' ⟨rfl, h1, h2⟩
  rw [if_pos hp, hu]
  exact ⟨by unfold errOf; rw [if_pos hp], h1, h2⟩
 ·refine (write_out h i t ?_).mono ?_
  ·by_cases h1 : isAt M i
   ·exact .inr (fun e => hp ⟨h1, e⟩)
   ·exact .inl (not_isAt h1)
  ·rintro e w' ⟨rfl, rfl⟩
   rw [if_neg hp]
   exact ⟨by unfold errOf; rw [if_neg hp], h, grown_refl _ _⟩
theorem read_any (h : PMem w b g M) (i : Int) :
  Calls Tryz.prog 146 #[.pointer (some ⟨b, 0, none⟩), .int .i64 i] w fun e w' => e = .returned (.tuple #[.string (if isAt M i then (M.getD i.toNat default).seen else ⟨#[]⟩), errOf (isAt M i)]) /\ w = w' := by
 by_cases hp : isAt M i
 ·obtain ⟨k, s, rfl, hs, hu⟩ := isAt_get hp
  refine (read_in h k s hs).mono ?_
  rintro e w' ⟨rfl, rfl⟩
  rw [if_pos hp]
  exact ⟨by unfold errOf; rw [if_pos hp]; simp [List.getD, hs], rfl⟩
 ·refine (read_out h i (not_isAt hp)).mono ?_
  rintro e w' ⟨rfl, rfl⟩
  rw [if_neg hp]
  exact ⟨by unfold errOf; rw [if_neg hp], rfl⟩
end
end Go.Proofs.YtpghocekofdpbaaGreatDoor
namespace Go.Proofs.YtpghocekofdpbaaGreatDoor
open Go.RowKit Go.Shelf
theorem settle_full {now before fresh : ByteArray} {dirty worn : Bool} (h : now.size = 64) : Sec.settle ⟨now, before, fresh, dirty, worn⟩ 64 = ⟨fresh.extract 0 64, now, ⟨#[]⟩, false, worn⟩ := by
 unfold Sec.settle
 rw [if_pos (by omega)]
 have e : now.extract 64 now.size = ⟨#[]⟩ := by
  rw [h]
  apply ByteArray.ext
  simp []
 have e2 : fresh.extract 0 64 ++ (⟨#[]⟩ : ByteArray) = fresh.extract 0 64 := by
  apply ByteArray.ext
  simp [ByteArray.data_append]
 simp only
 rw [e, e2]
theorem idxs_at {p : Sec -> Bool} {M : List Sec} {i : Nat} (h : i ∈ idxs p M) : ∃ s, M[i]? = some s /\ p s = true := by
 unfold idxs at h
 generalize hn : M.length = n at h
 have : ∀ n, i ∈ upto (fun i => ((M[i]?).map p).getD false) n -> ((M[i]?).map p).getD false = true := by
  intro n
  induction n with
  | zero => intro h; simp [upto_zero] at h
  | succ n ih =>
   intro h
   cases hb : ((M[n]?).map p).getD false
   ·rw [upto_no _ n hb] at h; exact ih h
   ·rw [upto_yes _ n hb] at h
    rcases List.mem_append.1 h with h | h
    ·exact ih h
    ·simp at h; rw [h]; exact hb
 have h2 := this n h
 cases hs : M[i]? with
 | none => rw [hs] at h2; simp at h2
 | some s => rw [hs] at h2; exact ⟨s, rfl, by simpa using h2⟩
theorem upto_nodup (P0 : Nat -> Bool) : ∀ n, (upto P0 n).Nodup
 | 0 => by simp [upto_zero]
 | n + 1 => by
  cases hb : P0 n
  ·rw [upto_no P0 n hb]; exact upto_nodup P0 n
  ·rw [upto_yes P0 n hb, List.nodup_append]
   refine ⟨upto_nodup P0 n, by simp, ?_⟩
   intro a ha c hc e
   simp at hc; subst hc; subst e
   exact absurd (upto_lt P0 _ _ ha) (by omega)
def Sec.fine (s : Sec) : Prop := s.now.size = 64 /\ s.before.size = 64 /\ (s.dirty = true -> s.fresh.size = 64)
theorem fine_set {M : List Sec} (h : Fine M) {i : Nat} {s : Sec} (hs : s.fine) : Fine (M.set i s) := by
 intro x hx
 rcases List.mem_or_eq_of_mem_set hx with h1 | rfl
 ·exact h x h1
 ·exact hs
theorem fine_upd {M : List Sec} (h : Fine M) {f : Sec -> Sec} (hf : ∀ s : Sec, s.fine -> (f s).fine) {i : Int} (hi : isAt M i) : Fine (upd f M i) := by
 obtain ⟨k, s, rfl, hs, hu⟩ := isAt_get hi
 rw [hu]
 exact fine_set h (hf s (h s (List.mem_of_getElem? hs)))
theorem upd_len (f : Sec -> Sec) (M : List Sec) (i : Int) : (upd f M i).length = M.length := by simp [upd]
end Go.Proofs.YtpghocekofdpbaaGreatDoor
namespace Go.Proofs.YtpghocekofdpbaaGreatDoor
structure Dev where
 slots : List ByteArray
 fuses : List Bool
 counter : Int
 clock : Int
 M : List Sec
 down : Bool
 left : Int
def Dev.dstep (D : Dev) (check : Int) (f : Dev -> Dev) : Int × Dev :=
 if D.down = true then (14, D)
 else if check ≠ 0 then (check, D)
 else if D.left = 0 then (14, { D with down := true, left := -1 })
 else (0, f { D with left := max (D.left - 1) (-1) })
def zero32 : ByteArray := ⟨(List.replicate 32 (0 : UInt8)).toArray⟩
def chk (p : Prop) [Decidable p] : Int := if p then 0 else 1
def inS {α : Type} (l : List α) (i : Int) : Prop := 0 <= i /\ i < l.length
instance {α : Type} (l : List α) (i : Int) : Decidable (inS l i) := inferInstanceAs (Decidable (_ /\ _))
end Go.Proofs.YtpghocekofdpbaaGreatDoor
namespace Go.Proofs.YtpghocekofdpbaaGreatDoor
end Go.Proofs.YtpghocekofdpbaaGreatDoor
namespace Go.Proofs.YtpghocekofdpbaaGreatDoor
def freshDev (n s f : Nat) : Dev := ⟨List.replicate s zero32, List.replicate f false, 0, 0, List.replicate n Sec.blank, false, -1⟩
section
variable {n s f : Nat} {D : Dev}
theorem fine_upd_write {M : List Sec} (h : Fine M) (t : ByteArray) (i : Int) (hi : isAt M i /\ t.size = 64) : Fine (upd (fun s => s.write t) M i) := by
 refine fine_upd (f := fun s => s.write t) h (fun x hx => ?_) hi.1
 unfold Sec.write
 split
 ·exact hx
 ·exact ⟨hx.1, hx.2.1, fun _ => hi.2⟩
end
end Go.Proofs.YtpghocekofdpbaaGreatDoor
namespace Go.Proofs.YtpghocekofdpbaaGreatDoor
open Go.RowKit
theorem idxs_none {p : Sec -> Bool} {M : List Sec} (h : ∀ s ∈ M, p s = false) : idxs p M = [] := by
 unfold idxs upto
 rw [List.filter_eq_nil_iff]
 intro i hi
 have hi' : i < M.length := by simpa using hi
 have := h _ (List.getElem_mem hi')
 simp [List.getElem?_eq_getElem hi', this]
theorem idxs_mem {p : Sec -> Bool} {M : List Sec} {j : Nat} : j ∈ idxs p M ↔ ∃ s, M[j]? = some s /\ p s = true := by
 refine ⟨idxs_at, fun ⟨s, h1, h2⟩ => ?_⟩
 unfold idxs upto
 rw [List.mem_filter, List.mem_range]
 exact ⟨(List.getElem?_eq_some_iff.1 h1).1, by simp [h1, h2]⟩
theorem doneM_get (cnt : Nat -> Nat) (M : List Sec) : ∀ (n : Nat) (pre : List Nat), pre.length = n -> pre.Nodup -> ∀ j s, j ∈ pre -> M[j]? = some s -> ∃ i, (doneM cnt M pre)[j]? = some (s.settle (cnt i))
 | 0, pre, hl, _, j, s, hj, _ => by rw [List.eq_nil_of_length_eq_zero hl] at hj; cases hj
 | n + 1, pre, hl, hn, j, s, hj, hs => by
  have hne : pre ≠ [] := by intro e; rw [e] at hl; simp at hl
  rw [<- List.dropLast_concat_getLast hne] at hj hn ⊢
  rw [doneM_snoc]
  by_cases hjl : j = pre.getLast hne
  ·subst hjl
   refine ⟨pre.dropLast.length, ?_⟩
   rw [List.getElem?_set_self (by rw [doneM_len]; exact (List.getElem?_eq_some_iff.1 hs).1), List.getD, hs]
   rfl
  ·have hj' : j ∈ pre.dropLast := by
    rcases List.mem_append.1 hj with h | h
    ·exact h
    ·exact absurd (by simpa using h) hjl
   rw [List.getElem?_set_ne (fun e => hjl e.symm)]
   exact doneM_get cnt M n _ (by simp [hl]) (List.nodup_append.1 hn).1 j s hj' hs
def Sec.flushed (s : Sec) : Sec := if s.dirty then ⟨s.fresh, s.now, ⟨#[]⟩, false, s.worn⟩ else s
theorem extract_all {t : ByteArray} (h : t.size = 64) : t.extract 0 64 = t := by
 rw [<- h]; exact ByteArray.extract_zero_size
theorem flush_get {M : List Sec} (hf : Fine M) {j : Nat} {s : Sec} (hs : M[j]? = some s) : (doneM (fun _ => 64) M (idxs Sec.dirty M))[j]? = some s.flushed := by
 unfold Sec.flushed
 by_cases hd : s.dirty = true
 ·rw [if_pos hd]
  obtain ⟨i, hi⟩ := doneM_get (fun _ => 64) M _ (idxs Sec.dirty M) rfl (upto_nodup _ _) j s (idxs_mem.2 ⟨s, hs, hd⟩) hs
  rw [hi]
  obtain ⟨h1, h2, h3⟩ := hf s (List.mem_of_getElem? hs)
  have h4 := h3 hd
  obtain ⟨now, before, fresh, dirty, worn⟩ := s
  dsimp only at h1 h4 ⊢
  rw [settle_full h1, extract_all h4]
 ·rw [if_neg hd, doneM_at _ _ _ _ (fun i hi e => by
   obtain ⟨s', h1, h2⟩ := idxs_mem.1 hi
   rw [e, hs] at h1
   cases h1
   exact hd h2), hs]
theorem flush_map {M : List Sec} (hf : Fine M) : doneM (fun _ => 64) M (idxs Sec.dirty M) = M.map Sec.flushed := by
 apply List.ext_getElem?
 intro j
 rw [List.getElem?_map]
 cases hs : M[j]? with
 | none => rw [List.getElem?_eq_none (by rw [doneM_len]; exact List.getElem?_eq_none_iff.1 hs)]; rfl
 | some s => exact flush_get hf hs
theorem flushed_clean (s : Sec) : s.flushed.dirty = false := by
 unfold Sec.flushed
 split
 ·rfl
 ·rename_i h; simpa using h
theorem cut_get {M : List Sec} (P : List Int) {j : Nat} {s : Sec} (hs : M[j]? = some s) : (s.dirty = false /\ (doneM (pick P) M (idxs Sec.dirty M))[j]? = some s) \/ (s.dirty = true /\ ∃ n, n <= 64 /\ (doneM (pick P) M (idxs Sec.dirty M))[j]? = some (s.settle n)) := by
 by_cases hd : s.dirty = true
 ·obtain ⟨i, hi⟩ := doneM_get (pick P) M _ (idxs Sec.dirty M) rfl (upto_nodup _ _) j s (idxs_mem.2 ⟨s, hs, hd⟩) hs
  exact .inr ⟨hd, _, pick_le P i, hi⟩
 ·refine .inl ⟨by simpa using hd, ?_⟩
  rw [doneM_at _ _ _ _ (fun i hi e => by
   obtain ⟨s', h1, h2⟩ := idxs_mem.1 hi
   rw [e, hs] at h1
   cases h1
   exact hd h2), hs]
theorem cut_none {M : List Sec} (P : List Int) (h : ∀ s ∈ M, s.dirty = false) : doneM (pick P) M (idxs Sec.dirty M) = M := by
 rw [idxs_none h, doneM_nil]
theorem settle_clean (s : Sec) (n : Nat) : (s.settle n).dirty = false := by unfold Sec.settle; split <;> rfl
def toL (t : ByteArray) : List UInt8 := t.data.toList
theorem toL_len (t : ByteArray) : (toL t).length = t.size := by simp [toL]
theorem toL_extract (t : ByteArray) (i j : Nat) : toL (t.extract i j) = ((toL t).drop i).take (j - i) := by
 unfold toL
 rw [ByteArray.data_extract, Array.toList_extract, List.extract_eq_take_drop]
theorem toL_append (a b : ByteArray) : toL (a ++ b) = toL a ++ toL b := by
 unfold toL
 rw [ByteArray.data_append, Array.toList_append]
theorem idx_at (t : ByteArray) {j : Nat} (h : j < t.size) : ∃ b : UInt8, (toL t)[j]? = some b /\ ∀ w, (Instr.index 9 (.string t) (.int .i64 j)).run Tryz.prog w = .ok (.int .u8 b.toNat) w := by
 refine ⟨t[j], ?_, fun w => ?_⟩
 ·unfold toL
  rw [Array.getElem?_toList, Array.getElem?_eq_getElem h]
  rfl
 ·rw [run_index_string w 9 t .i64 j Tryz.underlying9, dif_pos ⟨by omega, by omega⟩]
  rfl
end Go.Proofs.YtpghocekofdpbaaGreatDoor
