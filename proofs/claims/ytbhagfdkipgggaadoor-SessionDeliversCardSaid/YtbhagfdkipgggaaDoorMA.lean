/-
  Layer 2 (hash): words of 32 bits; their rotation.
  Layer 2 (hash), plain: the message schedule.
  Layer 2 (hash), plain: the compression of a block.
  Arrays in memory: a row of cells is stored into a block.
  Layer 2 (hash): the message schedule.
  Layer 2 (hash): the compression of a block.
-/
import Derived.Test.YtbhagfdkipgggaaDoorKit
import Derived.Laws.BitsAllLaws
import Derived.IntWalk
import Derived.Lib.Hide
import Derived.Test.YtbhagfdkipgggaaDoorShelf
import Derived.Deep.MidRow
import Derived.OwnWalk
import Derived.BigQuiet
import Derived.Deep.CutRange
import Derived.Deep.CutBlock
import Derived.Deep.RegionHeld3
namespace Go.Proofs.YtbhagfdkipgggaaDoor
open Go.RowKit Go.Shelf
attribute [local go_sem] Oper.semAt_some

/-- The operations on words, by names that no simplification opens. -/
def wand (x y : UInt32) : UInt32 := x &&& y
def wor (x y : UInt32) : UInt32 := x ||| y
def wxor (x y : UInt32) : UInt32 := x ^^^ y
def wadd (x y : UInt32) : UInt32 := x + y
def wshl (x : UInt32) (s : Nat) : UInt32 := x <<< UInt32.ofNat s
def wshr (x : UInt32) (s : Nat) : UInt32 := x >>> UInt32.ofNat s
def wnot (x : UInt32) : UInt32 := ~~~x
/-- A word as a value. -/
abbrev u32v (x : UInt32) : Value := .int .u32 (x.toNat : Int)
theorem w_lt (x : UInt32) : x.toNat < 4294967296 := x.toNat_lt
theorem w_and (x y : UInt32) : bits .and .u32 (x.toNat : Int) (y.toNat : Int) = ((wand x y).toNat : Int) := by
  rw [u32_and_nat _ _ (w_lt x) (w_lt y)]
  unfold wand
  rw [UInt32.toNat_and]
theorem w_or (x y : UInt32) : bits .or .u32 (x.toNat : Int) (y.toNat : Int) = ((wor x y).toNat : Int) := by
  rw [u32_or_nat _ _ (w_lt x) (w_lt y)]
  unfold wor
  rw [UInt32.toNat_or]
theorem w_xor (x y : UInt32) : bits .xor .u32 (x.toNat : Int) (y.toNat : Int) = ((wxor x y).toNat : Int) := by
  rw [u32_xor_nat _ _ (w_lt x) (w_lt y)]
  unfold wxor
  rw [UInt32.toNat_xor]
theorem w_add (x y : UInt32) : IntKind.u32.wrap ((x.toNat : Int) + (y.toNat : Int)) = ((wadd x y).toNat : Int) := by
  unfold wadd
  rw [IntKind.wrap_u32', UInt32.toNat_add]
  omega
theorem w_add' (x y : UInt32) : ((x.toNat : Int) + (y.toNat : Int)) % 4294967296 = ((wadd x y).toNat : Int) := by
  rw [← w_add, IntKind.wrap_u32']
theorem shl_nat (x : UInt32) (s : Nat) (hs : s < 32) : (wshl x s).toNat = x.toNat * 2 ^ s % 4294967296 := by
  unfold wshl
  rw [UInt32.toNat_shiftLeft, UInt32.toNat_ofNat', Nat.shiftLeft_eq]
  have e : s % 2 ^ 32 % 32 = s := by omega
  rw [e]
theorem shr_nat (x : UInt32) (s : Nat) (hs : s < 32) : (wshr x s).toNat = x.toNat / 2 ^ s := by
  unfold wshr
  rw [UInt32.toNat_shiftRight, UInt32.toNat_ofNat', Nat.shiftRight_eq_div_pow]
  have e : s % 2 ^ 32 % 32 = s := by omega
  rw [e]
theorem cast_pow (n : Nat) : (((2 : Nat) ^ n : Nat) : Int) = (2 : Int) ^ n := by simp
theorem shl_eq (x : UInt32) (s : Nat) (hs : s < 32) : (x.toNat : Int) * 2 ^ min s 32 % 4294967296 = ((wshl x s).toNat : Int) := by
  rw [shl_nat x s hs, Nat.min_eq_left (by omega), ← cast_pow, Int.natCast_emod, Int.natCast_mul]
  rfl
theorem shr_eq (x : UInt32) (s : Nat) (hs : s < 32) : (x.toNat : Int) / 2 ^ min s 32 = ((wshr x s).toNat : Int) := by
  rw [shr_nat x s hs, Nat.min_eq_left (by omega), ← cast_pow, Int.natCast_ediv]
/-- The left rotation by 1 to 31 bits. -/
def rotl (x : UInt32) (s : Nat) : UInt32 := wor (wshl x s) (wshr x (32 - s))
theorem low5 (k : Int) (s : Nat) (hs : k % 32 = s) : bits .and .u64 (IntKind.u64.wrap k) 31 = (s : Int) := by
  have hw : IntKind.u64.wrap k = k % 18446744073709551616 := by simp [IntKind.wrap, IntKind.bits, IntKind.signed]
  have h0 : 0 ≤ k % 18446744073709551616 := Int.emod_nonneg _ (by decide)
  have h1 : k % 18446744073709551616 < 18446744073709551616 := Int.emod_lt_of_pos _ (by decide)
  rw [hw, u64_and _ _ h0 h1 (by decide) (by decide)]
  show ((( (k % 18446744073709551616).toNat &&& 31 : Nat)) : Int) = _
  have := Nat.and_two_pow_sub_one_eq_mod (k % 18446744073709551616).toNat 5
  rw [show (31 : Nat) = 2 ^ 5 - 1 by rfl, this]
  omega
set_option maxRecDepth 100000 in
theorem rot_any (w : World) (x : UInt32) (k : Int) (s : Nat) (hs : k % 32 = s) (h1 : 1 ≤ s) (_h2 : s ≤ 31) :
    Calls Tryd.prog 120 #[u32v x, .int .i64 k] w fun e w' => e = .returned (u32v (rotl x s)) ∧ w = w' := by
  have hq := low5 k s hs
  have hl := shl_eq x s (by omega)
  have hr := shr_eq x (32 - s) (by omega)
  have hsub : IntKind.u64.wrap (32 - (s : Int)) = ((32 - s : Nat) : Int) := by simp [IntKind.wrap, IntKind.bits, IntKind.signed]; omega
  have ho := w_or (wshl x s) (wshr x (32 - s))
  obtain ⟨t, ht⟩ : ∃ t, 32 - s = t := ⟨_, rfl⟩
  unfold rotl
  rw [ht] at hr hsub ho ⊢
  clear hs h1 _h2 ht
  go_enter Tryd.func120, Tryd.ntmps120
  go_wp2_with fail
  go_ret
  exact ⟨rfl, rfl⟩
attribute [local go_sem] w_xor
set_option maxRecDepth 100000 in
theorem mix_any (w : World) (x : UInt32) (i j k : Nat) (hi : 1 ≤ i ∧ i ≤ 31) (hj : 1 ≤ j ∧ j ≤ 31) (hk : 1 ≤ k ∧ k ≤ 31) :
    Calls Tryd.prog 117 #[u32v x, .int .i64 i, .int .i64 j, .int .i64 k] w fun e w' => e = .returned (u32v (wxor (wxor (rotl x (32 - i)) (rotl x (32 - j))) (rotl x (32 - k)))) ∧ w = w' := by
  have Hi := Lib.hid (rot_any w x (-(i : Int)) (32 - i) (by omega) (by omega) (by omega))
  have Hj := Lib.hid (rot_any w x (-(j : Int)) (32 - j) (by omega) (by omega) (by omega))
  have Hk := Lib.hid (rot_any w x (-(k : Int)) (32 - k) (by omega) (by omega) (by omega))
  have wi : wrap64 (-(i : Int)) = -(i : Int) := by unfold wrap64; omega
  have wj : wrap64 (-(j : Int)) = -(j : Int) := by unfold wrap64; omega
  have wk : wrap64 (-(k : Int)) = -(k : Int) := by unfold wrap64; omega
  clear hi hj hk
  go_enter Tryd.func117, Tryd.ntmps117
  go_wp2_with fail
  refine Hi.out.mono ?_
  rintro e w' ⟨rfl, rfl⟩
  go_wp2_with fail
  refine Hj.out.mono ?_
  rintro e w' ⟨rfl, rfl⟩
  go_wp2_with fail
  refine Hk.out.mono ?_
  rintro e w' ⟨rfl, rfl⟩
  go_wp2_with fail
  go_ret
  exact ⟨rfl, rfl⟩
end Go.Proofs.YtbhagfdkipgggaaDoor
namespace Go.Proofs.YtbhagfdkipgggaaDoor

/-- A byte as a word; four bytes as a word, the first one on top. -/
def w8 (x : UInt8) : UInt32 := UInt32.ofNat x.toNat
theorem w8_nat (x : UInt8) : (w8 x).toNat = x.toNat := by
  unfold w8
  rw [UInt32.toNat_ofNat']
  have := x.toNat_lt
  omega
def word4 (l : List UInt8) : UInt32 := l.foldl (fun a x => wor (wshl a 8) (w8 x)) 0
def sg0 (x : UInt32) : UInt32 := wxor (wxor (rotl x 25) (rotl x 14)) (wshr x 3)
def sg1 (x : UInt32) : UInt32 := wxor (wxor (rotl x 15) (rotl x 13)) (wshr x 10)
/-- The first words of the schedule. -/
def sched (b : List UInt8) : Nat → List UInt32
  | 0 => []
  | t + 1 => sched b t ++ [if t < 16 then word4 ((b.drop (4 * t)).take 4) else wadd (wadd (wadd ((sched b t).getD (t - 16) 0) (sg0 ((sched b t).getD (t - 15) 0))) ((sched b t).getD (t - 7) 0)) (sg1 ((sched b t).getD (t - 2) 0))]
theorem sched_len (b : List UInt8) : ∀ t, (sched b t).length = t
  | 0 => rfl
  | t + 1 => by
    unfold sched
    rw [List.length_append, sched_len b t]
    rfl
theorem sched_old (b : List UInt8) (t : Nat) : ∀ u j, j < t → t ≤ u → (sched b u).getD j 0 = (sched b t).getD j 0
  | 0, j, h, h2 => by omega
  | u + 1, j, h, h2 => by
    by_cases e : t = u + 1
    · rw [e]
    · rw [← sched_old b t u j h (by omega)]
      show (sched b u ++ _).getD j 0 = _
      rw [List.getD_eq_getElem?_getD, List.getD_eq_getElem?_getD, List.getElem?_append_left (by rw [sched_len]; omega), List.getD_eq_getElem?_getD]
/-- A word of the schedule. -/
def sw (b : List UInt8) (t : Nat) : UInt32 := (sched b 64).getD t 0
theorem sw_low (b : List UInt8) (t : Nat) (h : t < 16) : sw b t = word4 ((b.drop (4 * t)).take 4) := by
  unfold sw
  rw [sched_old b (t + 1) 64 t (by omega) (by omega)]
  show (sched b t ++ [_]).getD t 0 = _
  rw [List.getD_eq_getElem?_getD, List.getElem?_append_right (by rw [sched_len]; omega), sched_len, Nat.sub_self, if_pos h]
  rfl
theorem sw_high (b : List UInt8) (t : Nat) (h : 16 ≤ t) (h2 : t < 64) : sw b t = wadd (wadd (wadd (sw b (t - 16)) (sg0 (sw b (t - 15)))) (sw b (t - 7))) (sg1 (sw b (t - 2))) := by
  unfold sw
  rw [sched_old b (t + 1) 64 t (by omega) (by omega), sched_old b t 64 (t - 16) (by omega) (by omega), sched_old b t 64 (t - 15) (by omega) (by omega), sched_old b t 64 (t - 7) (by omega) (by omega), sched_old b t 64 (t - 2) (by omega) (by omega)]
  show (sched b t ++ [_]).getD t 0 = _
  rw [List.getD_eq_getElem?_getD, List.getElem?_append_right (by rw [sched_len]; omega), sched_len, Nat.sub_self, if_neg (by omega)]
  rfl
/-- The schedule as cells. -/
def schedV (b : List UInt8) : List Value := (List.range 64).map fun j => u32v (sw b j)
theorem schedV_len (b : List UInt8) : (schedV b).length = 64 := by simp [schedV]
theorem schedV_at (b : List UInt8) (j : Nat) (h : j < 64) : (schedV b)[j]? = some (u32v (sw b j)) := by
  unfold schedV
  rw [List.getElem?_map, List.getElem?_range h]
  rfl
end Go.Proofs.YtbhagfdkipgggaaDoor
namespace Go.Proofs.YtbhagfdkipgggaaDoor

/-- The round constants. -/
def shaK : List UInt32 := [1116352408, 1899447441, 3049323471, 3921009573, 961987163, 1508970993, 2453635748, 2870763221, 3624381080, 310598401, 607225278, 1426881987, 1925078388, 2162078206, 2614888103, 3248222580, 3835390401, 4022224774, 264347078, 604807628, 770255983, 1249150122, 1555081692, 1996064986, 2554220882, 2821834349, 2952996808, 3210313671, 3336571891, 3584528711, 113926993, 338241895, 666307205, 773529912, 1294757372, 1396182291, 1695183700, 1986661051, 2177026350, 2456956037, 2730485921, 2820302411, 3259730800, 3345764771, 3516065817, 3600352804, 4094571909, 275423344, 430227734, 506948616, 659060556, 883997877, 958139571, 1322822218, 1537002063, 1747873779, 1955562222, 2024104815, 2227730452, 2361852424, 2428436474, 2756734187, 3204031479, 3329325298]
theorem shaK_len : shaK.length = 64 := by decide
/-- A constant by its number. -/
def kAt (t : Nat) : UInt32 := shaK.getD t 0
def kV : List Value := shaK.map u32v
theorem kV_len : kV.length = 64 := by unfold kV; rw [List.length_map, shaK_len]
theorem kV_at (t : Nat) (h : t < 64) : kV[t]? = some (u32v (kAt t)) := by
  unfold kV kAt
  rw [List.getElem?_map, List.getD_eq_getElem?_getD, List.getElem?_eq_getElem (by rw [shaK_len]; exact h)]
  rfl
/-- Eight words. -/
structure S8 where
  a : UInt32
  b : UInt32
  c : UInt32
  d : UInt32
  e : UInt32
  f : UInt32
  g : UInt32
  h : UInt32
/-- The sums of a round. -/
def rx (s : S8) (k w : UInt32) : UInt32 := wadd (wadd (wadd (wadd s.h (wxor (wxor (rotl s.e 26) (rotl s.e 21)) (rotl s.e 7))) (wxor (wand s.e s.f) (wand (wnot s.e) s.g))) k) w
def ry (s : S8) : UInt32 := wadd (wxor (wxor (rotl s.a 30) (rotl s.a 19)) (rotl s.a 10)) (wxor (wxor (wand s.a s.b) (wand s.a s.c)) (wand s.b s.c))
def sround (s : S8) (k w : UInt32) : S8 := ⟨wadd (rx s k w) (ry s), s.a, s.b, s.c, wadd s.d (rx s k w), s.e, s.f, s.g⟩
def srounds (s : S8) (b : List UInt8) : Nat → S8
  | 0 => s
  | t + 1 => sround (srounds s b t) (kAt t) (sw b t)
def sadd (s v : S8) : S8 := ⟨wadd s.a v.a, wadd s.b v.b, wadd s.c v.c, wadd s.d v.d, wadd s.e v.e, wadd s.f v.f, wadd s.g v.g, wadd s.h v.h⟩
/-- The compression. -/
def scomp (s : S8) (b : List UInt8) : S8 := sadd s (srounds s b 64)
def s8V (s : S8) : Array Value := #[u32v s.a, u32v s.b, u32v s.c, u32v s.d, u32v s.e, u32v s.f, u32v s.g, u32v s.h]
end Go.Proofs.YtbhagfdkipgggaaDoor
namespace Go.Proofs.YtbhagfdkipgggaaDoor
open Go.RowKit

theorem blk_setCells {g : Nat} {t : TypeId} : ∀ (vs : List Value) (o : Nat) (w : World) (cs : Array Value), Blk w g t cs →
    ∃ ds : Array Value, Blk (w.setCells g o vs) g t ds ∧ ds.size = cs.size ∧ (∀ j, o ≤ j → j < o + vs.length → j < cs.size → ds[j]? = vs[j - o]?) ∧ ∀ j, j < o ∨ o + vs.length ≤ j → ds[j]? = cs[j]?
  | [], o, w, cs, h => ⟨cs, h, rfl, fun j h1 h2 _ => by simp at h2; omega, fun _ _ => rfl⟩
  | v :: r, o, w, cs, h => by
    obtain ⟨ds, h1, h2, h3, h4⟩ := blk_setCells r (o + 1) (w.setCell ⟨g, o, none⟩ v) _ (h.set_ o v)
    refine ⟨ds, h1, by rw [h2]; simp, fun j hj1 hj2 hj3 => ?_, fun j hj => ?_⟩
    · by_cases e : j = o
      · subst e
        rw [h4 j (.inl (by omega)), Array.getElem?_setIfInBounds, if_pos rfl, if_pos hj3, Nat.sub_self]
        rfl
      · rw [h3 j (by omega) (by simp at hj2; omega) (by simpa using hj3)]
        rw [show j - o = (j - (o + 1)) + 1 by omega]
        rfl
    · rw [h4 j (by simp at hj; omega), Array.getElem?_setIfInBounds, if_neg (by simp at hj; omega)]
/-- A whole block is stored. -/
theorem blk_setWhole {w : World} {g : Nat} {t : TypeId} {cs : Array Value} (h : Blk w g t cs) (vs : List Value) (hl : vs.length = cs.size) : Blk (w.setCells g 0 vs) g t vs.toArray := by
  obtain ⟨ds, h1, h2, h3, _⟩ := blk_setCells vs 0 w cs h
  have e : ds = vs.toArray := by
    apply Array.ext_getElem?
    intro j
    by_cases hj : j < cs.size
    · rw [h3 j (Nat.zero_le _) (by omega) hj, Nat.sub_zero, List.getElem?_toArray]
    · rw [Array.getElem?_eq_none (by omega), Array.getElem?_eq_none (by simp; omega)]
  rw [e] at h1
  exact h1
theorem below_setCells {B : Nat} {w0 : World} {g : Nat} (hg : B ≤ g) : ∀ (vs : List Value) (o : Nat) (w : World), Below B w0 w → Below B w0 (w.setCells g o vs)
  | [], _, _, h => h
  | v :: r, o, _, h => below_setCells hg r (o + 1) _ (h.setCell (p := ⟨g, o, none⟩) hg v)
theorem there_of_blk {w : World} {g : Nat} {t : TypeId} {cs : Array Value} (h : Blk w g t cs) {o n : Nat} (hn : o + n ≤ cs.size) : w.there g o n := fun j hj =>
  ⟨by rw [h.cell, Array.getElem?_eq_getElem (by omega)]; rfl, h.frozen _⟩
theorem range_of_blk {w : World} {g : Nat} {t : TypeId} {cs : Array Value} (h : Blk w g t cs) : w.rangeAt g 0 cs.toList := fun j v hv => by
  rw [Nat.zero_add, h.cell, ← hv, Array.getElem?_toList]
theorem oneCell_map {α : Type} (f : α → Value) (l : List α) (h : ∀ a, (f a).oneCell' = true) : (l.map f).toArray.all (·.oneCell') = true :=
  all_oneCell_toArray fun v hv => by
    obtain ⟨a, _, rfl⟩ := List.mem_map.1 hv
    exact h a
end Go.Proofs.YtbhagfdkipgggaaDoor
namespace Go.Proofs.YtbhagfdkipgggaaDoor
open Go.RowKit Go.Shelf
attribute [local go_sem] Oper.semAt_some w_xor w_or

/-- Some words of a schedule lie in a block, then one that is under way; the others are zero. -/
def SchedAt (w : World) (m : Nat) (b : List UInt8) (t : Nat) (a : UInt32) : Prop := ∃ cs : Array Value, Blk w m 118 cs ∧ cs.size = 64 ∧ ∀ j, j < 64 → cs[j]? = some (u32v (if j < t then sw b j else if j = t then a else 0))
theorem schedAt_cell {w : World} {m : Nat} {b : List UInt8} {t : Nat} {a : UInt32} (h : SchedAt w m b t a) (j : Nat) (hj : j < 64) : w.cell? ⟨m, j, none⟩ = some (u32v (if j < t then sw b j else if j = t then a else 0)) ∧ w.frozen? ⟨m, j, none⟩ = false := by
  obtain ⟨cs, h1, h2, h3⟩ := h
  exact ⟨by rw [h1.cell j]; exact h3 j hj, h1.frozen j⟩
theorem schedAt_set {w : World} {m : Nat} {b : List UInt8} {t : Nat} {a c : UInt32} (h : SchedAt w m b t a) (ht : t < 64) : SchedAt (w.setCell ⟨m, t, none⟩ (u32v c)) m b t c := by
  obtain ⟨cs, h1, h2, h3⟩ := h
  refine ⟨_, h1.set_ t _, by simp [h2], fun j hj => ?_⟩
  rw [Array.getElem?_setIfInBounds]
  by_cases e : t = j
  · subst e
    rw [if_pos rfl, if_pos (by omega), if_neg (by omega), if_pos rfl]
  · rw [if_neg e, h3 j hj]
    by_cases e2 : j < t
    · rw [if_pos e2, if_pos e2]
    · rw [if_neg e2, if_neg e2, if_neg (fun h => e h.symm), if_neg (fun h => e h.symm)]
theorem schedAt_next {w : World} {m : Nat} {b : List UInt8} {t : Nat} (h : SchedAt w m b t (sw b t)) : SchedAt w m b (t + 1) 0 := by
  obtain ⟨cs, h1, h2, h3⟩ := h
  refine ⟨cs, h1, h2, fun j hj => ?_⟩
  rw [h3 j hj]
  by_cases e : j < t
  · rw [if_pos e, if_pos (by omega)]
  · by_cases e2 : j = t
    · rw [if_neg e, if_pos e2, if_pos (by omega), e2]
    · rw [if_neg e, if_neg e2, if_neg (by omega)]
      split <;> rfl
theorem schedAt_cs {w : World} {m : Nat} {b : List UInt8} (h : SchedAt w m b 64 0) : w.rangeAt m 0 (schedV b) := by
  obtain ⟨cs, h1, h2, h3⟩ := h
  intro j v hv
  have hj : j < 64 := by have := (List.getElem?_eq_some_iff.1 hv).1; rw [schedV_len] at this; exact this
  rw [schedV_at b j hj] at hv
  cases hv
  rw [Nat.zero_add, h1.cell j, h3 j hj, if_pos hj]
theorem grown_set' (w : World) (g k : Nat) (v : Value) : w.grownBy (w.setCell ⟨g, k, none⟩ v) (some g) :=
  ⟨rfl, rfl, rfl, by simp [World.setCell], fun j _ hne => Below.heap_setCell w ⟨g, k, none⟩ v j (fun e => hne (by rw [e]))⟩
/-- The bytes that are hashed. -/
def BytesAt (w : World) (bb bo : Nat) (b : List UInt8) : Prop := bb < w.heap.size ∧ ∀ i x, b[i]? = some x → w.cell? ⟨bb, bo + i, none⟩ = some (.int .u8 (x.toNat : Int))
theorem BytesAt.below {w w' : World} {bb bo : Nat} {b : List UInt8} (h : BytesAt w bb bo b) (hB : Below w.heap.size w w') : BytesAt w' bb bo b :=
  ⟨Nat.lt_of_lt_of_le h.1 hB.size, fun i x hx => (hB.cell (p := ⟨bb, bo + i, none⟩) h.1).trans (h.2 i x hx)⟩
theorem byte_word (x : UInt8) : IntKind.u32.wrap (x.toNat : Int) = ((w8 x).toNat : Int) := by
  rw [w8_nat, IntKind.wrap_u32']
  have := x.toNat_lt
  omega
theorem byte_word' (x : UInt8) : (x.toNat : Int) % 4294967296 = ((w8 x).toNat : Int) := by rw [← byte_word, IntKind.wrap_u32']
theorem shl8 (a : UInt32) : (a.toNat : Int) * 256 % 4294967296 = ((wshl a 8).toNat : Int) := shl_eq a 8 (by decide)
theorem shr_lit3 (a : UInt32) : (a.toNat : Int) / 8 = ((wshr a 3).toNat : Int) := shr_eq a 3 (by decide)
theorem shr_lit10 (a : UInt32) : (a.toNat : Int) / 1024 = ((wshr a 10).toNat : Int) := shr_eq a 10 (by decide)
/-- 64 zero words. -/
def z64 : Array Value := Array.replicate 64 (.int .u32 0)
theorem z64_at (j : Nat) (hj : j < 64) : z64[j]? = some (.int .u32 0) := by
  unfold z64
  rw [Array.getElem?_replicate, if_pos hj]
theorem bslice (g o c n u m : Nat) (hu : u < m) (hm : m ≤ n) (hc : n ≤ c) (w : World) : (Instr.slice 65 (.slice (some ⟨g, o, none⟩) n c) (some (.int .i64 (u : Int))) (some (.int .i64 (m : Int))) none).run Tryd.prog w = .ok (.slice (some ⟨g, o + u, none⟩) (m - u) (c - u)) w := by
  have e3 : u ≤ m := by omega
  have e4 : ¬ c = u := by omega
  have e6 : m ≤ c := by omega
  simp [go_sem, e3, e4, e6]
theorem below_drewN2 {B : Nat} {a w : World} (h : Below B a w) (n : Nat) : Below B a (w.drewN n) := ⟨h.os, h.tape, h.output, h.size, h.block⟩
theorem u32v_one (x : UInt32) : (u32v x).oneCell' = true := rfl
theorem infoA64 : (Tryd.prog.info? 118).map (·.size) = some 64 := by kernel_rfl
theorem four_bytes {b : List UInt8} (hl : b.length = 64) (t : Nat) (ht : t < 16) (k : Nat) (hk : k < 4) : ∃ x, b[4 * t + k]? = some x ∧ ((b.drop (4 * t)).take (k + 1)) = ((b.drop (4 * t)).take k) ++ [x] := by
  have h1 : 4 * t + k < b.length := by omega
  refine ⟨b[4 * t + k], List.getElem?_eq_getElem h1, ?_⟩
  rw [List.take_add_one, List.getElem?_drop, List.getElem?_eq_getElem h1]
  rfl
set_option maxRecDepth 100000 in
set_option maxHeartbeats 1600000 in
theorem sched_any (w : World) (bb bo c : Nat) (b : List UInt8) (hl : b.length = 64) (hc : 64 ≤ c) (hb : BytesAt w bb bo b) :
    Calls Tryd.prog 116 #[.slice (some ⟨bb, bo, none⟩) 64 c] w fun e w' => e = .returned (.agg (schedV b).toArray) ∧ Below w.heap.size w w' := by
  have hs1 : (w.alloc (.cells z64 118)).heap.size = w.heap.size + 1 := by simp
  have bk := Blk.new (w.alloc (.cells z64 118)) 118 z64
  rw [hs1] at bk
  have HR : Hid (Blk ((w.alloc (.cells z64 118)).alloc (.cells z64 118)) w.heap.size 118 z64) := (Blk.new w 118 z64).alloc _
  have HB : Hid (Below w.heap.size w ((w.alloc (.cells z64 118)).alloc (.cells z64 118))) := by
    have b1 := (Below.refl _ w).alloc (Nat.le_refl _) (.cells z64 118)
    exact b1.alloc b1.size _
  have HS : Hid (SchedAt ((w.alloc (.cells z64 118)).alloc (.cells z64 118)) (w.heap.size + 1) b 0 0) := ⟨_, bk, by rfl, fun j hj => by rw [z64_at j hj, if_neg (by omega)]; split <;> rfl⟩
  clear bk
  go_enter Tryd.func116, Tryd.ntmps116
  go_wp2_with fail
  have Hb := Lib.hid hb
  clear hb hs1
  go_loopw [11] (fun i wr => ∃ t : Nat, t ≤ 64 ∧ i = .int .i64 t ∧ Hid (SchedAt wr (w.heap.size + 1) b t 0) ∧ Hid (∃ cs, Blk wr w.heap.size 118 cs ∧ cs.size = 64) ∧ Hid (Below w.heap.size w wr)) (fun i _ => 64 - (intOf i).toNat)
  case atStart => exact ⟨0, Nat.zero_le _, rfl, HS, ⟨_, HR.out, by rfl⟩, HB⟩
  case round =>
    obtain ⟨t, ht, rfl, hS, hR, hB⟩ := hrel
    have hB2 := hB
    by_cases h64 : t < 64
    · have d64 : decide (t < 64) = true := decide_eq_true h64
      have d64' : decide ((t : Int) < 64) = true := decide_eq_true (by omega)
      by_cases h16 : t < 16
      · have d16 : decide (t < 16) = true := decide_eq_true h16
        have d16' : decide ((t : Int) < 16) = true := decide_eq_true (by omega)
        have e1 : 0 ≤ 4 * (t : Int) + 4 ∧ 4 * (t : Int) + 4 ≤ (c : Int) := by omega
        have e2 : ¬ c = 4 * t := by omega
        have H16 := Lib.hid h16
        clear h16
        go_wp2_with fail
        clear e1 e2
        go_loopw [24] (fun i wx => ∃ k : Nat, k ≤ 4 ∧ i = .int .i64 k ∧ Hid (SchedAt wx (w.heap.size + 1) b t (word4 (((b.drop (4 * t)).take 4).take k))) ∧ Hid (∃ cs, Blk wx w.heap.size 118 cs ∧ cs.size = 64) ∧ Hid (Below w.heap.size w wx)) (fun i _ => 4 - (intOf i).toNat)
        case atStart => exact ⟨0, Nat.zero_le _, rfl, hS, hR, hB⟩
        case round =>
          clear hS hR hB hB2
          obtain ⟨k, hk, rfl, hS, hR, hB⟩ := hrel
          by_cases hk4 : k < 4
          · have dk : decide ((k : Int) < 4) = true := decide_eq_true (by omega)
            obtain ⟨x, hx, hx2⟩ := four_bytes hl t H16.out k hk4
            have hx3 : Hid (word4 (((b.drop (4 * t)).take 4).take (k + 1)) = wor (wshl (word4 (((b.drop (4 * t)).take 4).take k)) 8) (w8 x)) := by
              unfold Hid
              rw [List.take_take, List.take_take, Nat.min_eq_left (by omega), Nat.min_eq_left (by omega), hx2]
              unfold word4
              rw [List.foldl_append]
              rfl
            have c1 : wr.cell? ⟨bb, bo + 4 * t + k, none⟩ = some (.int .u8 (x.toNat : Int)) := by
              have := (Hb.out.below hB.out).2 _ x hx
              rw [← Nat.add_assoc] at this
              exact this
            obtain ⟨a, ha⟩ : ∃ a, word4 (((b.drop (4 * t)).take 4).take k) = a := ⟨_, rfl⟩
            rw [ha] at hS hx3
            obtain ⟨c2, f2⟩ := schedAt_cell hS.out t (by omega)
            rw [if_neg (Nat.lt_irrefl t), if_pos rfl] at c2
            have s8 := shl8 a
            have b8 := byte_word x
            have b8' := byte_word' x
            have hor := w_or (wshl a 8) (w8 x)
            have hSn := Lib.hid (schedAt_set (c := wor (wshl a 8) (w8 x)) hS.out h64)
            have hRn : Hid (∃ cs, Blk (wr.setCell ⟨w.heap.size + 1, t, none⟩ (u32v (wor (wshl a 8) (w8 x)))) w.heap.size 118 cs ∧ cs.size = 64) := by
              obtain ⟨cs, h1, h2⟩ := hR.out
              exact ⟨cs, h1.grown (grown_set' wr (w.heap.size + 1) t _) (by simp), h2⟩
            have hBn : Hid (Below w.heap.size w (wr.setCell ⟨w.heap.size + 1, t, none⟩ (u32v (wor (wshl a 8) (w8 x))))) := hB.out.setCell (p := ⟨w.heap.size + 1, t, none⟩) (by show _ ≤ w.heap.size + 1; omega) _
            have hmeas : Hid (4 - (k + 1) < 4 - k) := by unfold Hid; omega
            clear hx hx2 hS hR hB ha
            have hk4' : ¬ 4 ≤ (k : Int) := by omega
            go_wp2_with fail
            go_roundw
            case rel => exact ⟨k + 1, by omega, by go_num, by unfold Hid; rw [hx3.out]; exact hSn.out, hRn, hBn⟩
            case measure => simp [intOf]; omega
          · obtain rfl : k = 4 := by omega
            have dk : decide (((4 : Nat) : Int) < 4) = false := by decide
            have hSn : Hid (SchedAt wr (w.heap.size + 1) b (t + 1) 0) := by
              refine schedAt_next ?_
              have e := hS.out
              rw [List.take_take, Nat.min_self, ← sw_low b t H16.out] at e
              exact e
            clear hS
            go_wp2_with fail
            go_roundw
            case rel => exact ⟨t + 1, by omega, by go_num, hSn, hR, hB⟩
            case measure => simp [intOf]; omega
      · have d16 : decide (t < 16) = false := decide_eq_false h16
        have d16' : decide ((t : Int) < 16) = false := decide_eq_false (by omega)
        obtain ⟨p, hp⟩ : ∃ p, p + 16 = t := ⟨t - 16, by omega⟩
        have r15 : (t : Int) - 15 = ((p + 1 : Nat) : Int) := by omega
        have r2 : (t : Int) - 2 = ((p + 14 : Nat) : Int) := by omega
        have r16 : (t : Int) - 16 = (p : Int) := by omega
        have r7 : (t : Int) - 7 = ((p + 9 : Nat) : Int) := by omega
        have y15 := (schedAt_cell hS.out (p + 1) (by omega)).1
        have y2 := (schedAt_cell hS.out (p + 14) (by omega)).1
        have y16 := (schedAt_cell hS.out p (by omega)).1
        have y7 := (schedAt_cell hS.out (p + 9) (by omega)).1
        obtain ⟨yt, ft⟩ := schedAt_cell hS.out t (by omega)
        rw [if_pos (by omega)] at y15 y2 y16 y7
        rw [if_neg (Nat.lt_irrefl t), if_pos rfl] at yt
        have hsw := Lib.hid (sw_high b t (by omega) h64)
        rw [show t - 16 = p by omega, show t - 15 = p + 1 by omega, show t - 7 = p + 9 by omega, show t - 2 = p + 14 by omega] at hsw
        generalize sw b (p + 1) = x15 at y15 hsw
        generalize sw b (p + 14) = x2 at y2 hsw
        generalize sw b p = x16 at y16 hsw
        generalize sw b (p + 9) = x7 at y7 hsw
        obtain ⟨p15, hp15⟩ : ∃ q, p + 1 = q := ⟨_, rfl⟩
        obtain ⟨p2, hp2⟩ : ∃ q, p + 14 = q := ⟨_, rfl⟩
        obtain ⟨p7, hp7⟩ : ∃ q, p + 9 = q := ⟨_, rfl⟩
        rw [hp15] at r15 y15
        rw [hp2] at r2 y2
        rw [hp7] at r7 y7
        have b15 : ¬ 64 ≤ (p15 : Int) := by omega
        have b2 : ¬ 64 ≤ (p2 : Int) := by omega
        have b16 : ¬ 64 ≤ (p : Int) := by omega
        have b7 : ¬ 64 ≤ (p7 : Int) := by omega
        have n15 : p15 < 64 := by omega
        have n2 : p2 < 64 := by omega
        have n16 : p < 64 := by omega
        have n7 : p7 < 64 := by omega
        clear hp hp15 hp2 hp7 h16
        have bt : ¬ 64 ≤ (t : Int) := by omega
        go_wp2_with (go_quiet (fail))
        have z16 : (wr.drewN nq).cell? ⟨w.heap.size + 1, p, none⟩ = some (u32v x16) := y16
        have z7 : (wr.drewN nq).cell? ⟨w.heap.size + 1, p7, none⟩ = some (u32v x7) := y7
        have zt : (wr.drewN nq).cell? ⟨w.heap.size + 1, t, none⟩ = some (u32v 0) := yt
        have zf : (wr.drewN nq).frozen? ⟨w.heap.size + 1, t, none⟩ = false := ft
        have hS2 : Hid (SchedAt (wr.drewN nq) (w.heap.size + 1) b t 0) := hS.out
        have hR2 : Hid (∃ cs, Blk (wr.drewN nq) w.heap.size 118 cs ∧ cs.size = 64) := hR.out
        have hB3 : Hid (Below w.heap.size w (wr.drewN nq)) := below_drewN2 hB.out nq
        clear y15 y2 y16 y7 yt ft hS hR hB hB2
        generalize wr.drewN nq = wq at *
        refine (rot_any wq x15 (-7) 25 (by decide) (by decide) (by decide)).mono ?_
        rintro e w' ⟨rfl, rfl⟩
        go_wp2_with fail
        refine (rot_any wq x15 (-18) 14 (by decide) (by decide) (by decide)).mono ?_
        rintro e w' ⟨rfl, rfl⟩
        have s3 := shr_lit3 x15
        go_wp2_with fail
        refine (rot_any wq x2 (-17) 15 (by decide) (by decide) (by decide)).mono ?_
        rintro e w' ⟨rfl, rfl⟩
        clear s3
        go_wp2_with fail
        refine (rot_any wq x2 (-19) 13 (by decide) (by decide) (by decide)).mono ?_
        rintro e w' ⟨rfl, rfl⟩
        have s10 := shr_lit10 x2
        go_wp2_with fail
        clear s10
        have q1 : wxor (wxor (rotl x15 25) (rotl x15 14)) (wshr x15 3) = sg0 x15 := rfl
        have q2 : wxor (wxor (rotl x2 15) (rotl x2 13)) (wshr x2 10) = sg1 x2 := rfl
        rw [q1, q2]
        clear q1 q2
        generalize sg0 x15 = g0 at *
        generalize sg1 x2 = g1 at *
        have a1 := w_add x16 g0
        have a2 := w_add (wadd x16 g0) x7
        have a3 := w_add (wadd (wadd x16 g0) x7) g1
        have a1' := w_add' x16 g0
        have a2' := w_add' (wadd x16 g0) x7
        have a3' := w_add' (wadd (wadd x16 g0) x7) g1
        go_region
        clear a1 a2 a3 a1' a2' a3' z16 z7 zt zf
        have hSn : Hid (SchedAt (wq.setCell ⟨w.heap.size + 1, t, none⟩ (u32v (wadd (wadd (wadd x16 g0) x7) g1))).drew (w.heap.size + 1) b (t + 1) 0) := by
          have e := schedAt_set (c := wadd (wadd (wadd x16 g0) x7) g1) hS2.out h64
          rw [← hsw.out] at e ⊢
          exact schedAt_next e
        have hRn : Hid (∃ cs, Blk (wq.setCell ⟨w.heap.size + 1, t, none⟩ (u32v (wadd (wadd (wadd x16 g0) x7) g1))).drew w.heap.size 118 cs ∧ cs.size = 64) := by
          obtain ⟨cs, h1, h2⟩ := hR2.out
          exact ⟨cs, (h1.grown (grown_set' wq (w.heap.size + 1) t _) (by simp)).drew, h2⟩
        have hBn : Hid (Below w.heap.size w (wq.setCell ⟨w.heap.size + 1, t, none⟩ (u32v (wadd (wadd (wadd x16 g0) x7) g1))).drew) := (hB3.out.setCell (p := ⟨w.heap.size + 1, t, none⟩) (by show _ ≤ w.heap.size + 1; omega) _).drew
        go_wp2_with fail
        go_roundw
        case rel => exact ⟨t + 1, by omega, by go_num, hSn, hRn, hBn⟩
        case measure => simp [intOf]; omega
    · obtain rfl : t = 64 := by omega
      have d64 : decide (((64 : Nat) : Int) < 64) = false := by decide
      have hld := Lib.hid (schedAt_cs hS.out)
      obtain ⟨cs, hb1, hb2⟩ := hR.out
      have hb3 := Lib.hid hb1
      have hb4 := Lib.hid hb2
      have hl64 := Lib.hid (schedV_len b)
      clear hR hS hb1 hb2
      go_wp2_with (first | (refine wpList_load_mid rfl 118 _ rfl (w.heap.size + 1) 0 rfl (schedV b) _ hld.out Tryd.underlying118 rfl (by rw [hl64.out]; exact infoA64) ?_) | (refine wpList_store_mid rfl 118 _ _ rfl w.heap.size 0 (schedV b).toArray rfl rfl (there_of_blk hb3.out (by rw [hb4.out, List.size_toArray, hl64.out]; omega)) (by rw [List.size_toArray, hl64.out]; exact infoA64) (oneCell_map _ _ (fun a => u32v_one _)) ?_))
      exact bodyPost_ret (results_c (P := Tryd.prog) rfl _ _ w.heap.size 118 (schedV b).toArray _ rfl (blk_setWhole hb3.out (schedV b) (by rw [hl64.out, hb4.out])) Tryd.underlying118 rfl (by rw [List.size_toArray, hl64.out]; exact infoA64)) rfl ⟨rfl, below_setCells (Nat.le_refl _) _ _ _ hB.out⟩
end Go.Proofs.YtbhagfdkipgggaaDoor
namespace Go.Proofs.YtbhagfdkipgggaaDoor
open Go.RowKit Go.Shelf
theorem xor_ones (x : UInt32) : wxor 4294967295 x = wnot x := by
  unfold wxor wnot
  apply UInt32.toBitVec_inj.1
  rw [UInt32.toBitVec_xor, UInt32.toBitVec_not]
  show 4294967295#32 ^^^ x.toBitVec = _
  rw [show 4294967295#32 = BitVec.allOnes 32 by decide]
  exact BitVec.allOnes_xor
theorem w_not (x : UInt32) : bits .xor .u32 IntKind.u32.max (x.toNat : Int) = ((wnot x).toNat : Int) := by
  have h := w_xor 4294967295 x
  rw [xor_ones] at h
  exact h
attribute [local go_sem] Oper.semAt_some w_xor w_and w_add w_add' w_not

theorem arr4 (g o c : Nat) (wx : World) (_hc : 4 ≤ c) : (Instr.arrayAt 155 (.slice (some ⟨g, o, none⟩) 4 c)).run Tryd.prog wx = .ok (.pointer (some ⟨g, o, none⟩)) wx := by
  unfold Instr.arrayAt
  simp [run_underlying Tryd.underlying155, go_sem]
theorem two_alloc (W : World) (t : TypeId) (A B : Array Value) : Blk ((W.alloc (.cells A t)).alloc (.cells B t)).drew W.heap.size t A ∧ Blk ((W.alloc (.cells A t)).alloc (.cells B t)).drew (W.heap.size + 1) t B ∧ Below W.heap.size W ((W.alloc (.cells A t)).alloc (.cells B t)).drew := by
  have h1 := Blk.new (W.alloc (.cells A t)) t B
  rw [World.size_alloc] at h1
  have b1 := (Below.refl _ W).alloc (Nat.le_refl _) (.cells A t)
  exact ⟨((Blk.new W t A).alloc _).drew, h1.drew, (b1.alloc b1.size _).drew⟩
theorem mix1 (w : World) (x : UInt32) : Calls Tryd.prog 117 #[u32v x, .int .i64 6, .int .i64 11, .int .i64 25] w fun e w' => e = .returned (u32v (wxor (wxor (rotl x 26) (rotl x 21)) (rotl x 7))) ∧ w = w' := mix_any w x 6 11 25 (by decide) (by decide) (by decide)
theorem mix2 (w : World) (x : UInt32) : Calls Tryd.prog 117 #[u32v x, .int .i64 2, .int .i64 13, .int .i64 22] w fun e w' => e = .returned (u32v (wxor (wxor (rotl x 30) (rotl x 19)) (rotl x 10))) ∧ w = w' := mix_any w x 2 13 22 (by decide) (by decide) (by decide)
theorem infoU32 : (Tryd.prog.info? 108).map (fun i => (i.zero, i.size, i.bytes)) = some (some (.int .u32 0), 1, 4) := by kernel_rfl
theorem idx_run (w : World) (t : Nat) (h : t < 64) : (Instr.index 118 (.agg kV.toArray) (.int .i64 t)).run Tryd.prog w = .ok (u32v (kAt t)) w := by
  obtain ⟨i0, hi, hz0, hz1, hz2⟩ := info_parts infoU32
  have e := kV_at t h
  have hs : (0 : Int) ≤ (t : Int) ∧ (t : Int) < ((64 : Nat) : Int) := ⟨by omega, by omega⟩
  unfold Instr.index
  simp [run_underlying Tryd.underlying118, go_sem, sizeOf, typeInfo, hi, hz1, h, part, e]
theorem infoA8 : (Tryd.prog.info? 116).map (·.size) = some 8 := by kernel_rfl
/-- The compression under way. -/
structure CompAt (w wr : World) (sb rb wb vb eb : Nat) (s : S8) (b : List UInt8) (st : S8) : Prop where
  fs : Blk wr sb 116 (s8V s)
  fr : ∃ cs, Blk wr rb 116 cs ∧ cs.size = 8
  fw : Blk wr wb 118 (schedV b).toArray
  fv : Blk wr vb 155 #[u32v st.a, u32v st.b, u32v st.c, u32v st.d]
  fe : Blk wr eb 155 #[u32v st.e, u32v st.f, u32v st.g, u32v st.h]
  bel : Below w.heap.size w wr
theorem CompAt.drew {w wr : World} {sb rb wb vb eb : Nat} {s : S8} {b : List UInt8} {st : S8} (h : CompAt w wr sb rb wb vb eb s b st) : CompAt w wr.drew sb rb wb vb eb s b st :=
  ⟨h.fs.drew, by obtain ⟨cs, h1, h2⟩ := h.fr; exact ⟨cs, h1.drew, h2⟩, h.fw.drew, h.fv.drew, h.fe.drew, h.bel.drew⟩
section
variable {g : Nat} {t : TypeId} {x0 x1 x2 x3 : Value} (w : World) (y0 y1 y2 y3 : Value)
/-- Four cells are stored. -/
def set4 (w : World) (g : Nat) (y0 y1 y2 y3 : Value) : World := (((w.setCell ⟨g, 0, none⟩ y0).setCell ⟨g, 1, none⟩ y1).setCell ⟨g, 2, none⟩ y2).setCell ⟨g, 3, none⟩ y3
theorem set4_blk {w : World} (h : Blk w g t #[x0, x1, x2, x3]) : Blk (set4 w g y0 y1 y2 y3) g t #[y0, y1, y2, y3] := (((h.set_ 0 y0).set_ 1 y1).set_ 2 y2).set_ 3 y3
theorem grown_tr {a b c : World} {row : Option Nat} (h : a.grownBy b row) (k : b.grownBy c row) : a.grownBy c row :=
  ⟨k.os.trans h.os, k.tape.trans h.tape, k.output.trans h.output, Nat.le_trans h.size k.size, fun j hj hne => (k.block j (Nat.lt_of_lt_of_le hj h.size) hne).trans (h.block j hj hne)⟩
theorem set4_grown (g : Nat) : w.grownBy (set4 w g y0 y1 y2 y3) (some g) :=
  grown_tr (grown_tr (grown_tr (grown_set' w g 0 y0) (grown_set' _ g 1 y1)) (grown_set' _ g 2 y2)) (grown_set' _ g 3 y3)
theorem set4_below {B : Nat} {w0 w : World} (hg : B ≤ g) (h : Below B w0 w) : Below B w0 (set4 w g y0 y1 y2 y3) :=
  (((h.setCell (p := ⟨g, 0, none⟩) hg y0).setCell (p := ⟨g, 1, none⟩) hg y1).setCell (p := ⟨g, 2, none⟩) hg y2).setCell (p := ⟨g, 3, none⟩) hg y3
end
theorem CompAt.next {w wz : World} {sb rb wb vb eb : Nat} {s : S8} {b : List UInt8} {st : S8} (h : CompAt w wz sb rb wb vb eb s b st) (hne : vb ≠ eb) (hv : w.heap.size ≤ vb) (he : w.heap.size ≤ eb) (p0 p1 p2 p3 q0 q1 q2 q3 : UInt32) :
    CompAt w (set4 (set4 wz eb (u32v p0) (u32v p1) (u32v p2) (u32v p3)) vb (u32v q0) (u32v q1) (u32v q2) (u32v q3)) sb rb wb vb eb s b ⟨q0, q1, q2, q3, p0, p1, p2, p3⟩ := by
  have gA := set4_grown wz (u32v p0) (u32v p1) (u32v p2) (u32v p3) eb
  have gB := set4_grown (set4 wz eb (u32v p0) (u32v p1) (u32v p2) (u32v p3)) (u32v q0) (u32v q1) (u32v q2) (u32v q3) vb
  have k : ∀ {j : Nat} {t : TypeId} {cs : Array Value}, Blk wz j t cs → j ≠ eb → j ≠ vb → Blk (set4 (set4 wz eb (u32v p0) (u32v p1) (u32v p2) (u32v p3)) vb (u32v q0) (u32v q1) (u32v q2) (u32v q3)) j t cs := fun hk h1 h2 => (hk.grown gA (fun e => h1 (by cases e; rfl))).grown gB (fun e => h2 (by cases e; rfl))
  refine ⟨k h.fs (h.fs.ne_ h.fe (by decide)) (h.fs.ne_ h.fv (by decide)), ?_, k h.fw (h.fw.ne_ h.fe (by decide)) (h.fw.ne_ h.fv (by decide)), ?_, ?_, ?_⟩
  · obtain ⟨cs, h1, h2⟩ := h.fr
    exact ⟨cs, k h1 (h1.ne_ h.fe (by decide)) (h1.ne_ h.fv (by decide)), h2⟩
  · exact set4_blk _ _ _ _ (h.fv.grown gA (fun e => hne (by cases e; rfl)))
  · exact (set4_blk _ _ _ _ h.fe).grown gB (fun e => hne (by cases e; rfl))
  · exact set4_below _ _ _ _ hv (set4_below _ _ _ _ he h.bel)
/-- The words by their numbers. -/
def S8.get (s : S8) : Nat → UInt32
  | 0 => s.a
  | 1 => s.b
  | 2 => s.c
  | 3 => s.d
  | 4 => s.e
  | 5 => s.f
  | 6 => s.g
  | _ => s.h
theorem s8V_at (s : S8) (j : Nat) (h : j < 8) : (s8V s)[j]? = some (u32v (s.get j)) := by
  match j, h with
  | 0, _ => rfl
  | 1, _ => rfl
  | 2, _ => rfl
  | 3, _ => rfl
  | 4, _ => rfl
  | 5, _ => rfl
  | 6, _ => rfl
  | 7, _ => rfl
theorem sadd_get (s v : S8) (j : Nat) (h : j < 8) : (sadd s v).get j = wadd (s.get j) (v.get j) := by
  match j, h with
  | 0, _ => rfl
  | 1, _ => rfl
  | 2, _ => rfl
  | 3, _ => rfl
  | 4, _ => rfl
  | 5, _ => rfl
  | 6, _ => rfl
  | 7, _ => rfl
/-- The first k words of each half are added. -/
def SumAt (w : World) (sb : Nat) (s v : S8) (k : Nat) : Prop := ∃ cs : Array Value, Blk w sb 116 cs ∧ cs.size = 8 ∧ ∀ j, j < 8 → cs[j]? = some (u32v (if j % 4 < k then wadd (s.get j) (v.get j) else s.get j))
theorem sumAt_start {w : World} {sb : Nat} {s : S8} (v : S8) (h : Blk w sb 116 (s8V s)) : SumAt w sb s v 0 := ⟨_, h, rfl, fun j hj => by rw [if_neg (Nat.not_lt_zero _)]; exact s8V_at s j hj⟩
theorem sumAt_cell {w : World} {sb : Nat} {s v : S8} {k : Nat} (h : SumAt w sb s v k) (j : Nat) (hj : j < 8) : w.cell? ⟨sb, j, none⟩ = some (u32v (if j % 4 < k then wadd (s.get j) (v.get j) else s.get j)) ∧ w.frozen? ⟨sb, j, none⟩ = false := by
  obtain ⟨cs, h1, h2, h3⟩ := h
  exact ⟨by rw [h1.cell]; exact h3 j hj, h1.frozen j⟩
theorem sumAt_next {w : World} {sb : Nat} {s v : S8} {k : Nat} (h : SumAt w sb s v k) (hk : k < 4) : SumAt (((w.setCell ⟨sb, k, none⟩ (u32v (wadd (s.get k) (v.get k)))).drew.setCell ⟨sb, k + 4, none⟩ (u32v (wadd (s.get (k + 4)) (v.get (k + 4))))).drew) sb s v (k + 1) := by
  obtain ⟨cs, h1, h2, h3⟩ := h
  refine ⟨_, ((h1.set_ k _).drew.set_ (k + 4) _).drew, by simp [h2], fun j hj => ?_⟩
  rw [Array.getElem?_setIfInBounds, Array.getElem?_setIfInBounds]
  by_cases e1 : k + 4 = j
  · subst e1
    rw [if_pos rfl, if_pos (by simp; omega), if_pos (by omega)]
  · rw [if_neg e1]
    by_cases e2 : k = j
    · subst e2
      rw [if_pos rfl, if_pos (by omega), if_pos (by omega)]
    · rw [if_neg e2, h3 j hj]
      by_cases e3 : j % 4 < k
      · rw [if_pos e3, if_pos (by omega)]
      · rw [if_neg e3, if_neg (by omega)]
theorem sumAt_done {w : World} {sb : Nat} {s v : S8} (h : SumAt w sb s v 4) : w.rangeAt sb 0 (s8V (sadd s v)).toList := by
  obtain ⟨cs, h1, h2, h3⟩ := h
  intro j x hx
  have hj : j < 8 := (List.getElem?_eq_some_iff.1 hx).1
  rw [Array.getElem?_toList, s8V_at _ j hj, sadd_get _ _ j hj] at hx
  cases hx
  rw [Nat.zero_add, h1.cell, h3 j hj, if_pos (by omega)]
theorem world_is {P : World → Prop} {X : World} (h : ∀ W, X = W → P W) : P X := h X rfl
/-- The constants as they lie in memory. -/
def KAt (w : World) (g : Nat) : Prop := g < w.heap.size ∧ w.rangeAt g 0 kV
theorem KAt.below {w w' : World} {g : Nat} (h : KAt w g) (hB : Below w.heap.size w w') : KAt w' g :=
  ⟨Nat.lt_of_lt_of_le h.1 hB.size, fun j v hv => (hB.cell (p := ⟨g, 0 + j, none⟩) h.1).trans (h.2 j v hv)⟩
set_option maxRecDepth 100000 in
set_option maxHeartbeats 1600000 in
theorem comp_any (w : World) (s : S8) (bb bo c : Nat) (b : List UInt8) (hl : b.length = 64) (hc : 64 ≤ c) (hb : BytesAt w bb bo b) (hK : KAt w 1) :
    Calls Tryd.prog 110 #[.agg (s8V s), .slice (some ⟨bb, bo, none⟩) 64 c] w fun e w' => e = .returned (.agg (s8V (scomp s b))) ∧ Below w.heap.size w w' := by
  unfold s8V
  have HS := Lib.hid (fun wx (h : Below w.heap.size w wx) => sched_any wx bb bo c b hl hc (hb.below h))
  have hl64 := Lib.hid (schedV_len b)
  have hsz64 : Hid ((schedV b).toArray.size = 64) := by unfold Hid; rw [List.size_toArray]; exact hl64.out
  go_enter Tryd.func110, Tryd.ntmps110
  go_wp2_with fail
  have hB0 : Below w.heap.size w ((w.alloc (.cells #[u32v s.a, u32v s.b, u32v s.c, u32v s.d, u32v s.e, u32v s.f, u32v s.g, u32v s.h] 116)).alloc (.cells #[.int .u32 0, .int .u32 0, .int .u32 0, .int .u32 0, .int .u32 0, .int .u32 0, .int .u32 0, .int .u32 0] 116)) := by
    have b1 := (Below.refl _ w).alloc (Nat.le_refl _) (.cells #[u32v s.a, u32v s.b, u32v s.c, u32v s.d, u32v s.e, u32v s.f, u32v s.g, u32v s.h] 116)
    exact b1.alloc b1.size _
  have hSB : Blk ((w.alloc (.cells #[u32v s.a, u32v s.b, u32v s.c, u32v s.d, u32v s.e, u32v s.f, u32v s.g, u32v s.h] 116)).alloc (.cells #[.int .u32 0, .int .u32 0, .int .u32 0, .int .u32 0, .int .u32 0, .int .u32 0, .int .u32 0, .int .u32 0] 116)) w.heap.size 116 (s8V s) := (Blk.new w _ _).alloc _
  have hRB : Blk ((w.alloc (.cells #[u32v s.a, u32v s.b, u32v s.c, u32v s.d, u32v s.e, u32v s.f, u32v s.g, u32v s.h] 116)).alloc (.cells #[.int .u32 0, .int .u32 0, .int .u32 0, .int .u32 0, .int .u32 0, .int .u32 0, .int .u32 0, .int .u32 0] 116)) (w.heap.size + 1) 116 #[.int .u32 0, .int .u32 0, .int .u32 0, .int .u32 0, .int .u32 0, .int .u32 0, .int .u32 0, .int .u32 0] := by
    have := Blk.new (w.alloc (.cells #[u32v s.a, u32v s.b, u32v s.c, u32v s.d, u32v s.e, u32v s.f, u32v s.g, u32v s.h] 116)) 116 #[.int .u32 0, .int .u32 0, .int .u32 0, .int .u32 0, .int .u32 0, .int .u32 0, .int .u32 0, .int .u32 0]
    rw [World.size_alloc] at this
    exact this
  generalize ((w.alloc (.cells #[u32v s.a, u32v s.b, u32v s.c, u32v s.d, u32v s.e, u32v s.f, u32v s.g, u32v s.h] 116)).alloc (.cells #[.int .u32 0, .int .u32 0, .int .u32 0, .int .u32 0, .int .u32 0, .int .u32 0, .int .u32 0, .int .u32 0] 116)) = w0 at *
  refine (HS.out _ hB0).mono ?_
  rintro e w1 ⟨rfl, hB1⟩
  have hz0 := hB0.size
  have HB1 := Lib.hid (hB0.trans (hB1.mono hz0))
  have HSB1 := Lib.hid (hSB.below hB1 hSB.lt)
  have HRB1 := Lib.hid (hRB.below hB1 hRB.lt)
  clear hB0 hB1 hSB hRB hz0 HS
  have hth := Lib.hid (there_of_blk (o := 0) (n := 64) (Blk.new w1 118 z64) (by decide))
  go_upto_region 2 with (first | (refine wpList_store_mid rfl 118 _ _ rfl w1.heap.size 0 (schedV b).toArray rfl rfl ?hA ?hB ?hC ?_) | fail)
  case hA => rw [hsz64.out]; exact hth.out
  case hB => rw [hsz64.out]; exact infoA64
  case hC => exact oneCell_map _ _ (fun a => u32v_one _)
  try simp only [Act.put]
  refine world_is (P := fun W => Code.wp _ _ _ _ W) (X := (w1.alloc (.cells z64 118)).setCells w1.heap.size 0 (schedV b)) (fun W2 hW2 => ?_)
  have HWB : Hid (Blk W2 w1.heap.size 118 (schedV b).toArray) := by
    unfold Hid
    rw [← hW2]
    exact blk_setWhole (Blk.new w1 118 z64) (schedV b) (by rw [hl64.out]; rfl)
  have HB2 : Hid (Below w1.heap.size w1 W2) := by
    unfold Hid
    rw [← hW2]
    exact below_setCells (Nat.le_refl _) _ _ _ ((Below.refl _ w1).alloc (Nat.le_refl _) _)
  have HSB2 := Lib.hid (HSB1.out.below HB2.out HSB1.out.lt)
  have HRB2 := Lib.hid (HRB1.out.below HB2.out HRB1.out.lt)
  have HBB := Lib.hid (HB1.out.trans (HB2.out.mono HB1.out.size))
  have hs0 : W2.cell? ⟨w.heap.size, 0, none⟩ = some (u32v s.a) := HSB2.out.cell 0
  have hs1 : W2.cell? ⟨w.heap.size, 1, none⟩ = some (u32v s.b) := HSB2.out.cell 1
  have hs2 : W2.cell? ⟨w.heap.size, 2, none⟩ = some (u32v s.c) := HSB2.out.cell 2
  have hs3 : W2.cell? ⟨w.heap.size, 3, none⟩ = some (u32v s.d) := HSB2.out.cell 3
  have hs4 : W2.cell? ⟨w.heap.size, 4, none⟩ = some (u32v s.e) := HSB2.out.cell 4
  have hs5 : W2.cell? ⟨w.heap.size, 5, none⟩ = some (u32v s.f) := HSB2.out.cell 5
  have hs6 : W2.cell? ⟨w.heap.size, 6, none⟩ = some (u32v s.g) := HSB2.out.cell 6
  have hs7 : W2.cell? ⟨w.heap.size, 7, none⟩ = some (u32v s.h) := HSB2.out.cell 7
  obtain ⟨wb, hwb⟩ : ∃ wb, w1.heap.size = wb := ⟨_, rfl⟩
  rw [hwb] at HWB ⊢
  clear hW2 HB1 HB2 HSB1 HRB1 hth hwb
  have hA1 : ∀ wx, (Instr.arrayAt 155 (.slice (some ⟨w.heap.size, 0, none⟩) 4 8)).run Tryd.prog wx = .ok (.pointer (some ⟨w.heap.size, 0, none⟩)) wx := fun wx => arr4 _ _ _ _ (by decide)
  have hA2 : ∀ wx, (Instr.arrayAt 155 (.slice (some ⟨w.heap.size, 4, none⟩) 4 4)).run Tryd.prog wx = .ok (.pointer (some ⟨w.heap.size, 4, none⟩)) wx := fun wx => arr4 _ _ _ _ (by decide)
  have n0 := World.new_ne W2 _ hs0
  have hsz2 : w.heap.size < W2.heap.size := HSB2.out.lt
  go_cut [6, 7] from 15 to 20 (fun p q wx => ∃ vb eb, p = .pointer (some ⟨vb, 0, none⟩) ∧ q = .pointer (some ⟨eb, 0, none⟩) ∧ Hid (vb ≠ eb ∧ W2.heap.size ≤ vb ∧ W2.heap.size ≤ eb) ∧ Hid (Blk wx vb 155 #[u32v s.a, u32v s.b, u32v s.c, u32v s.d]) ∧ Hid (Blk wx eb 155 #[u32v s.e, u32v s.f, u32v s.g, u32v s.h]) ∧ Hid (Below W2.heap.size W2 wx))
  case first =>
    go_region_held3 (fun w' => w'.cell? ⟨w.heap.size, 0, none⟩ = some (u32v s.a) ∧ w'.cell? ⟨w.heap.size, 1, none⟩ = some (u32v s.b) ∧ w'.cell? ⟨w.heap.size, 2, none⟩ = some (u32v s.c) ∧ w'.cell? ⟨w.heap.size, 3, none⟩ = some (u32v s.d) ∧ w'.cell? ⟨w.heap.size, 4, none⟩ = some (u32v s.e) ∧ w'.cell? ⟨w.heap.size, 5, none⟩ = some (u32v s.f) ∧ w'.cell? ⟨w.heap.size, 6, none⟩ = some (u32v s.g) ∧ w'.cell? ⟨w.heap.size, 7, none⟩ = some (u32v s.h)) (go_keep) (fail)
    all_goals (try go_wp2_with fail)
    all_goals go_meet
    all_goals first
      | exact ⟨W2.heap.size, W2.heap.size + 1, rfl, rfl, ⟨by omega, by omega, by omega⟩, (two_alloc W2 155 _ _).1, (two_alloc W2 155 _ _).2.1, (two_alloc W2 155 _ _).2.2⟩
      | exact ⟨W2.heap.size + 1, W2.heap.size, rfl, rfl, ⟨by omega, by omega, by omega⟩, (two_alloc W2 155 _ _).2.1, (two_alloc W2 155 _ _).1, (two_alloc W2 155 _ _).2.2⟩
  case rest =>
  obtain ⟨vb, eb, rfl, rfl, hne, hV, hE, hB3⟩ := hcut
  have hC0 : Hid (CompAt w wc w.heap.size (w.heap.size + 1) wb vb eb s b s) :=
    ⟨HSB2.out.below hB3.out HSB2.out.lt, ⟨_, HRB2.out.below hB3.out HRB2.out.lt, rfl⟩, HWB.out.below hB3.out HWB.out.lt, hV.out, hE.out, HBB.out.trans (hB3.out.mono HBB.out.size)⟩
  have hK3 := Lib.hid (hK.below hC0.out.bel)
  have hK64 : Hid ((Tryd.prog.info? 118).map (·.size) = some kV.length) := by unfold Hid; rw [kV_len]; exact infoA64
  have hvw := Lib.hid (And.intro (Nat.le_trans (Nat.le_of_lt hsz2) hne.out.2.1) (Nat.le_trans (Nat.le_of_lt hsz2) hne.out.2.2))
  clear hs0 hs1 hs2 hs3 hs4 hs5 hs6 hs7 HSB2 HRB2 HWB HBB hV hE hB3 n0 hsz2 hA1 hA2 hK hb
  go_wp2_with (first | (refine wpList_load_mid rfl 118 _ rfl 1 0 rfl kV _ hK3.out.2 Tryd.underlying118 rfl hK64.out ?_) | fail)
  try simp only [Act.put, List.setIfInBounds_toArray, List.set_cons_zero, List.set_cons_succ]
  go_loopw [22] (fun i wr => ∃ t : Nat, t ≤ 64 ∧ i = .int .i64 t ∧ Hid (CompAt w wr w.heap.size (w.heap.size + 1) wb vb eb s b (srounds s b t))) (fun i _ => 64 - (intOf i).toNat)
  case atStart => exact ⟨0, Nat.zero_le _, rfl, hC0⟩
  case round =>
    clear hC0
    obtain ⟨t, ht, rfl, hC⟩ := hrel
    by_cases h64 : t < 64
    · have d64 : decide (t < 64) = true := decide_eq_true h64
      have d64' : decide ((t : Int) < 64) = true := decide_eq_true (by omega)
      have hk := fun wx => idx_run wx t h64
      have t0 : (0 : Int) ≤ (t : Int) := by omega
      have t1 : (t : Int) < 64 := by omega
      have t2 : ¬ 64 ≤ (t : Int) := by omega
      have hsr : Hid (srounds s b (t + 1) = sround (srounds s b t) (kAt t) (sw b t)) := rfl
      have hwt : wr.cell? ⟨wb, t, none⟩ = some (u32v (sw b t)) := by
        rw [hC.out.fw.cell t, List.getElem?_toArray]
        exact schedV_at b t h64
      generalize srounds s b t = st at *
      obtain ⟨a1, b1, c1, d1, e1, f1, g1, h1⟩ := st
      have v0 : wr.cell? ⟨vb, 0, none⟩ = some (u32v a1) := hC.out.fv.cell 0
      have v1 : wr.cell? ⟨vb, 1, none⟩ = some (u32v b1) := hC.out.fv.cell 1
      have v2 : wr.cell? ⟨vb, 2, none⟩ = some (u32v c1) := hC.out.fv.cell 2
      have v3 : wr.cell? ⟨vb, 3, none⟩ = some (u32v d1) := hC.out.fv.cell 3
      have e0 : wr.cell? ⟨eb, 0, none⟩ = some (u32v e1) := hC.out.fe.cell 0
      have e1' : wr.cell? ⟨eb, 1, none⟩ = some (u32v f1) := hC.out.fe.cell 1
      have e2 : wr.cell? ⟨eb, 2, none⟩ = some (u32v g1) := hC.out.fe.cell 2
      have e3 : wr.cell? ⟨eb, 3, none⟩ = some (u32v h1) := hC.out.fe.cell 3
      go_wp2_with fail
      go_region_held3 (fun w' => w'.cell? ⟨wb, t, none⟩ = some (u32v (sw b t)) ∧ w'.cell? ⟨vb, 0, none⟩ = some (u32v a1) ∧ w'.cell? ⟨vb, 1, none⟩ = some (u32v b1) ∧ w'.cell? ⟨vb, 2, none⟩ = some (u32v c1) ∧ w'.cell? ⟨vb, 3, none⟩ = some (u32v d1) ∧ w'.cell? ⟨eb, 0, none⟩ = some (u32v e1) ∧ w'.cell? ⟨eb, 1, none⟩ = some (u32v f1) ∧ w'.cell? ⟨eb, 2, none⟩ = some (u32v g1) ∧ w'.cell? ⟨eb, 3, none⟩ = some (u32v h1)) (go_keep) (first | (go_at_call 117; refine (mix1 _ _).mono ?_; rintro e w' ⟨rfl, rfl⟩))
      obtain ⟨X, hX⟩ : ∃ X, rx ⟨a1, b1, c1, d1, e1, f1, g1, h1⟩ (kAt t) (sw b t) = X := ⟨_, rfl⟩
      have hX2 : wadd (wadd (wadd (wadd h1 (wxor (wxor (rotl e1 26) (rotl e1 21)) (rotl e1 7))) (wxor (wand e1 f1) (wand (wnot e1) g1))) (kAt t)) (sw b t) = X := hX
      rw [hX2]
      have hC2 : Hid (CompAt w wr.drew w.heap.size (w.heap.size + 1) wb vb eb s b ⟨a1, b1, c1, d1, e1, f1, g1, h1⟩) := hC.out.drew
      clear v0 v1 v2 v3 e0 e1' e2 e3 hwt hX2 hC
      generalize wr.drew = wq at *
      have v0 : wq.cell? ⟨vb, 0, none⟩ = some (u32v a1) := hC2.out.fv.cell 0
      have v1 : wq.cell? ⟨vb, 1, none⟩ = some (u32v b1) := hC2.out.fv.cell 1
      have v2 : wq.cell? ⟨vb, 2, none⟩ = some (u32v c1) := hC2.out.fv.cell 2
      have v3 : wq.cell? ⟨vb, 3, none⟩ = some (u32v d1) := hC2.out.fv.cell 3
      go_wp2_with fail
      go_region_held3 (fun w' => w'.cell? ⟨vb, 0, none⟩ = some (u32v a1) ∧ w'.cell? ⟨vb, 1, none⟩ = some (u32v b1) ∧ w'.cell? ⟨vb, 2, none⟩ = some (u32v c1) ∧ w'.cell? ⟨vb, 3, none⟩ = some (u32v d1)) (go_keep) (first | (go_at_call 117; refine (mix2 _ _).mono ?_; rintro e w' ⟨rfl, rfl⟩))
      obtain ⟨Y, hY⟩ : ∃ Y, ry ⟨a1, b1, c1, d1, e1, f1, g1, h1⟩ = Y := ⟨_, rfl⟩
      have hY2 : wadd (wxor (wxor (rotl a1 30) (rotl a1 19)) (rotl a1 10)) (wxor (wxor (wand a1 b1) (wand a1 c1)) (wand b1 c1)) = Y := hY
      rw [hY2]
      have hC3 : Hid (CompAt w wq.drew w.heap.size (w.heap.size + 1) wb vb eb s b ⟨a1, b1, c1, d1, e1, f1, g1, h1⟩) := hC2.out.drew
      clear v0 v1 v2 v3 hY2 hC2
      generalize wq.drew = wz at *
      have v0 : wz.cell? ⟨vb, 0, none⟩ = some (u32v a1) := hC3.out.fv.cell 0
      have v1 : wz.cell? ⟨vb, 1, none⟩ = some (u32v b1) := hC3.out.fv.cell 1
      have v2 : wz.cell? ⟨vb, 2, none⟩ = some (u32v c1) := hC3.out.fv.cell 2
      have v3 : wz.cell? ⟨vb, 3, none⟩ = some (u32v d1) := hC3.out.fv.cell 3
      have e0 : wz.cell? ⟨eb, 0, none⟩ = some (u32v e1) := hC3.out.fe.cell 0
      have e1' : wz.cell? ⟨eb, 1, none⟩ = some (u32v f1) := hC3.out.fe.cell 1
      have e2 : wz.cell? ⟨eb, 2, none⟩ = some (u32v g1) := hC3.out.fe.cell 2
      have e3 : wz.cell? ⟨eb, 3, none⟩ = some (u32v h1) := hC3.out.fe.cell 3
      have fv0 := hC3.out.fv.frozen 0
      have fv1 := hC3.out.fv.frozen 1
      have fv2 := hC3.out.fv.frozen 2
      have fv3 := hC3.out.fv.frozen 3
      have fe0 := hC3.out.fe.frozen 0
      have fe1 := hC3.out.fe.frozen 1
      have fe2 := hC3.out.fe.frozen 2
      have fe3 := hC3.out.fe.frozen 3
      have hn1 : vb ≠ eb := hne.out.1
      have hn2 : eb ≠ vb := fun e => hne.out.1 e.symm
      have hN := Lib.hid (hC3.out.next hn1 hvw.out.1 hvw.out.2 (wadd d1 X) e1 f1 g1 (wadd X Y) a1 b1 c1)
      have hs2 : Hid (srounds s b (t + 1) = ⟨wadd X Y, a1, b1, c1, wadd d1 X, e1, f1, g1⟩) := by
        unfold Hid
        rw [hsr.out]
        unfold sround
        dsimp only
        rw [hX, hY]
      clear hC3
      go_wp2_with fail
      go_roundw
      case rel => exact ⟨t + 1, by omega, by go_num, by unfold Hid; rw [hs2.out]; exact hN.out⟩
      case measure => simp [intOf]; omega
    · have ht64 : t = 64 := by omega
      have d64 : decide (t < 64) = false := decide_eq_false h64
      have d64' : decide ((t : Int) < 64) = false := decide_eq_false (by omega)
      have t2 : (64 : Int) ≤ (t : Int) := by omega
      have t3 : ¬ (t : Int) < 64 := by omega
      have hsc : Hid (scomp s b = sadd s (srounds s b t)) := by unfold Hid; rw [ht64]; rfl
      clear ht64 ht
      generalize srounds s b t = V at *
      have hV4 : Hid (∀ j, j < 4 → wr.cell? ⟨vb, j, none⟩ = some (u32v (V.get j)) ∧ wr.cell? ⟨eb, j, none⟩ = some (u32v (V.get (j + 4)))) := by
        intro j hj
        rw [hC.out.fv.cell, hC.out.fe.cell]
        match j, hj with
        | 0, _ => exact ⟨rfl, rfl⟩
        | 1, _ => exact ⟨rfl, rfl⟩
        | 2, _ => exact ⟨rfl, rfl⟩
        | 3, _ => exact ⟨rfl, rfl⟩
      have hS0 : Hid (SumAt wr w.heap.size s V 0) := sumAt_start V hC.out.fs
      have hR0 : Hid (∃ cs, Blk wr (w.heap.size + 1) 116 cs ∧ cs.size = 8) := hC.out.fr
      have hB0 : Hid (Below w.heap.size w wr) := hC.out.bel
      have hvs := Lib.hid (And.intro (hC.out.fv.ne_ hC.out.fs (by decide)) (hC.out.fe.ne_ hC.out.fs (by decide)))
      clear hC hK3 hK64
      go_wp2_with fail
      go_loopw [94] (fun i wx => ∃ k : Nat, k ≤ 4 ∧ i = .int .i64 k ∧ Hid (SumAt wx w.heap.size s V k) ∧ Hid (∀ j, j < 4 → wx.cell? ⟨vb, j, none⟩ = some (u32v (V.get j)) ∧ wx.cell? ⟨eb, j, none⟩ = some (u32v (V.get (j + 4)))) ∧ Hid (∃ cs, Blk wx (w.heap.size + 1) 116 cs ∧ cs.size = 8) ∧ Hid (Below w.heap.size w wx)) (fun i _ => 4 - (intOf i).toNat)
      case atStart => exact ⟨0, Nat.zero_le _, rfl, hS0, hV4, hR0, hB0⟩
      case round =>
        clear hS0 hV4 hR0 hB0
        obtain ⟨k, hk, rfl, hS, hV, hR, hB⟩ := hrel
        by_cases hk4 : k < 4
        · have dk : decide (k < 4) = true := decide_eq_true hk4
          have dk' : decide ((k : Int) < 4) = true := decide_eq_true (by omega)
          have k0 : (0 : Int) ≤ (k : Int) := by omega
          have k1 : (k : Int) < 4 := by omega
          have k2 : ¬ 4 ≤ (k : Int) := by omega
          have k3 : ¬ 8 ≤ (k : Int) := by omega
          have k5 : ¬ 8 ≤ (k : Int) + 4 := by omega
          have k6 : (k : Int) < 8 := by omega
          have k7 : (k : Int) + 4 < 8 := by omega
          have k8 : (0 : Int) ≤ (k : Int) + 4 := by omega
          obtain ⟨c1, f1⟩ := sumAt_cell hS.out k (by omega)
          obtain ⟨c2, f2⟩ := sumAt_cell hS.out (k + 4) (by omega)
          rw [if_neg (by omega)] at c1 c2
          obtain ⟨c3, c4⟩ := hV.out k hk4
          have n1 := hvs.out.1
          have n2 := hvs.out.2
          have hSn := Lib.hid (sumAt_next hS.out hk4)
          have hVn : Hid (∀ j, j < 4 → (((wr.setCell ⟨w.heap.size, k, none⟩ (u32v (wadd (s.get k) (V.get k)))).drew.setCell ⟨w.heap.size, k + 4, none⟩ (u32v (wadd (s.get (k + 4)) (V.get (k + 4))))).drew).cell? ⟨vb, j, none⟩ = some (u32v (V.get j)) ∧ (((wr.setCell ⟨w.heap.size, k, none⟩ (u32v (wadd (s.get k) (V.get k)))).drew.setCell ⟨w.heap.size, k + 4, none⟩ (u32v (wadd (s.get (k + 4)) (V.get (k + 4))))).drew).cell? ⟨eb, j, none⟩ = some (u32v (V.get (j + 4)))) := by
            intro j hj
            obtain ⟨q1, q2⟩ := hV.out j hj
            have r1 : ∀ (W : World) (i : Nat) (x : Value), (W.setCell ⟨w.heap.size, i, none⟩ x).cell? ⟨vb, j, none⟩ = W.cell? ⟨vb, j, none⟩ := fun W i x => World.cell?_setCell_far _ _ _ _ (fun e => n1 e.symm)
            have r2 : ∀ (W : World) (i : Nat) (x : Value), (W.setCell ⟨w.heap.size, i, none⟩ x).cell? ⟨eb, j, none⟩ = W.cell? ⟨eb, j, none⟩ := fun W i x => World.cell?_setCell_far _ _ _ _ (fun e => n2 e.symm)
            refine ⟨?_, ?_⟩
            · refine (r1 _ _ _).trans ((r1 _ _ _).trans q1)
            · refine (r2 _ _ _).trans ((r2 _ _ _).trans q2)
          have hRn : Hid (∃ cs, Blk (((wr.setCell ⟨w.heap.size, k, none⟩ (u32v (wadd (s.get k) (V.get k)))).drew.setCell ⟨w.heap.size, k + 4, none⟩ (u32v (wadd (s.get (k + 4)) (V.get (k + 4))))).drew) (w.heap.size + 1) 116 cs ∧ cs.size = 8) := by
            obtain ⟨cs, h1, h2⟩ := hR.out
            exact ⟨cs, (((h1.grown (grown_set' wr w.heap.size k _) (by simp)).drew).grown (grown_set' _ w.heap.size (k + 4) _) (by simp)).drew, h2⟩
          have hBn : Hid (Below w.heap.size w (((wr.setCell ⟨w.heap.size, k, none⟩ (u32v (wadd (s.get k) (V.get k)))).drew.setCell ⟨w.heap.size, k + 4, none⟩ (u32v (wadd (s.get (k + 4)) (V.get (k + 4))))).drew)) :=
            (((hB.out.setCell (p := ⟨w.heap.size, k, none⟩) (Nat.le_refl _) _).drew).setCell (p := ⟨w.heap.size, k + 4, none⟩) (Nat.le_refl _) _).drew
          generalize s.get k = x1 at *
          generalize V.get k = x2 at *
          generalize s.get (k + 4) = x3 at *
          generalize V.get (k + 4) = x4 at *
          clear hS hV hR hB hvs
          go_wp2_with fail
          go_region
          go_wp2_with fail
          go_region
          go_wp2_with fail
          go_roundw
          case rel => exact ⟨k + 1, by omega, by go_num, hSn, hVn, hRn, hBn⟩
          case measure => simp [intOf]; omega
        · have hk44 : k = 4 := by omega
          have dk : decide (k < 4) = false := decide_eq_false hk4
          have dk' : decide ((k : Int) < 4) = false := decide_eq_false (by omega)
          have k2 : (4 : Int) ≤ (k : Int) := by omega
          have k3 : ¬ (k : Int) < 4 := by omega
          have hrg : Hid (wr.rangeAt w.heap.size 0 (s8V (scomp s b)).toList) := by
            have h4 := hS.out
            rw [hk44] at h4
            unfold Hid
            rw [hsc.out]
            exact sumAt_done h4
          clear hk44 hk hS hV
          obtain ⟨S, hSS⟩ : ∃ S, scomp s b = S := ⟨_, rfl⟩
          rw [hSS] at hrg
          have hSh := Lib.hid hSS
          have q0 : wr.cell? ⟨w.heap.size, 0, none⟩ = some (u32v S.a) := hrg.out 0 _ rfl
          have q1 : wr.cell? ⟨w.heap.size, 1, none⟩ = some (u32v S.b) := hrg.out 1 _ rfl
          have q2 : wr.cell? ⟨w.heap.size, 2, none⟩ = some (u32v S.c) := hrg.out 2 _ rfl
          have q3 : wr.cell? ⟨w.heap.size, 3, none⟩ = some (u32v S.d) := hrg.out 3 _ rfl
          have q4 : wr.cell? ⟨w.heap.size, 4, none⟩ = some (u32v S.e) := hrg.out 4 _ rfl
          have q5 : wr.cell? ⟨w.heap.size, 5, none⟩ = some (u32v S.f) := hrg.out 5 _ rfl
          have q6 : wr.cell? ⟨w.heap.size, 6, none⟩ = some (u32v S.g) := hrg.out 6 _ rfl
          have q7 : wr.cell? ⟨w.heap.size, 7, none⟩ = some (u32v S.h) := hrg.out 7 _ rfl
          obtain ⟨cs, hb1, hb2⟩ := hR.out
          obtain ⟨y0, z0⟩ : ∃ y, wr.cell? ⟨w.heap.size + 1, 0, none⟩ = some y := ⟨_, (hb1.cell 0).trans (Array.getElem?_eq_getElem (by omega))⟩
          have f0 := hb1.frozen 0
          obtain ⟨y1, z1⟩ : ∃ y, wr.cell? ⟨w.heap.size + 1, 1, none⟩ = some y := ⟨_, (hb1.cell 1).trans (Array.getElem?_eq_getElem (by omega))⟩
          have f1 := hb1.frozen 1
          obtain ⟨y2, z2⟩ : ∃ y, wr.cell? ⟨w.heap.size + 1, 2, none⟩ = some y := ⟨_, (hb1.cell 2).trans (Array.getElem?_eq_getElem (by omega))⟩
          have f2 := hb1.frozen 2
          obtain ⟨y3, z3⟩ : ∃ y, wr.cell? ⟨w.heap.size + 1, 3, none⟩ = some y := ⟨_, (hb1.cell 3).trans (Array.getElem?_eq_getElem (by omega))⟩
          have f3 := hb1.frozen 3
          obtain ⟨y4, z4⟩ : ∃ y, wr.cell? ⟨w.heap.size + 1, 4, none⟩ = some y := ⟨_, (hb1.cell 4).trans (Array.getElem?_eq_getElem (by omega))⟩
          have f4 := hb1.frozen 4
          obtain ⟨y5, z5⟩ : ∃ y, wr.cell? ⟨w.heap.size + 1, 5, none⟩ = some y := ⟨_, (hb1.cell 5).trans (Array.getElem?_eq_getElem (by omega))⟩
          have f5 := hb1.frozen 5
          obtain ⟨y6, z6⟩ : ∃ y, wr.cell? ⟨w.heap.size + 1, 6, none⟩ = some y := ⟨_, (hb1.cell 6).trans (Array.getElem?_eq_getElem (by omega))⟩
          have f6 := hb1.frozen 6
          obtain ⟨y7, z7⟩ : ∃ y, wr.cell? ⟨w.heap.size + 1, 7, none⟩ = some y := ⟨_, (hb1.cell 7).trans (Array.getElem?_eq_getElem (by omega))⟩
          have f7 := hb1.frozen 7
          have hb3 := Lib.hid hb1
          have hb4 := Lib.hid hb2
          clear hSS hsc hrg hR hb1 hb2
          go_wp2_with fail
          have hL := blk_setWhole hb3.out [u32v S.a, u32v S.b, u32v S.c, u32v S.d, u32v S.e, u32v S.f, u32v S.g, u32v S.h] (by rw [hb4.out]; rfl)
          have hBL := below_setCells (g := w.heap.size + 1) (Nat.le_succ _) [u32v S.a, u32v S.b, u32v S.c, u32v S.d, u32v S.e, u32v S.f, u32v S.g, u32v S.h] 0 _ hB.out
          rw [hSh.out]
          exact bodyPost_ret (results_c (P := Tryd.prog) rfl _ _ (w.heap.size + 1) 116 #[u32v S.a, u32v S.b, u32v S.c, u32v S.d, u32v S.e, u32v S.f, u32v S.g, u32v S.h] _ rfl hL Tryd.underlying116 rfl infoA8) rfl ⟨rfl, hBL⟩
end Go.Proofs.YtbhagfdkipgggaaDoor
