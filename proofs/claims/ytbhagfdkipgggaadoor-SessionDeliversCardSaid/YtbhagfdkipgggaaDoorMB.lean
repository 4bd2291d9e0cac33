/-
  Texts that differ; short rules for frames.
  The hash in plain words: the blocks of a message, one after the other.
  Layer 2 (hash): a stream's beginning.
  Layer 2 (hash): the cells of a stream.
  The builtin copy out of a text into a row that is known whole. (After CopyN.)
  Layer 2 (hash): a stream's cells are changed.
  A region that draws its order, whose last operation writes what its loads read: the loads are taken first all the same, for the last one waits for them.
  Layer 2 (hash): a stream takes a text.
  Rows of bytes that the call owns: append, conversion to a text and back.
  The hash in plain words: the padding and the digest.
  Layer 2 (hash): a stream's digest.
  Layer 2 (hash): the hash of bytes.
-/
import Derived.Test.YtbhagfdkipgggaaDoorKit
import Derived.Test.YtbhagfdkipgggaaDoorMA
import Derived.Test.YtbhagfdkipgggaaDoorProg
import Derived.Laws.CopyOwn
import Derived.Deep.RegionHeld3
import Derived.Deep.CutRange
import Derived.Deep.CutBlock
import Derived.Laws.AppendOwn
import Derived.Laws.OwnMore
import Derived.Lib.AppendStr
import Derived.Lib.ConvBytes
import Derived.Lib.AtoiErrMem
import Derived.Laws.IdiomStrings
import Derived.Below
import Derived.OwnWalk
namespace Go.Proofs.YtbhagfdkipgggaaDoor
open Go.RowKit
theorem toList_ne {a b : ByteArray} (h : ¬ a = b) : (a.toList == b.toList) = false := by
  rw [beq_eq_false_iff_ne]
  intro e
  rw [ByteArray.toList_eq, ByteArray.toList_eq] at e
  exact h (ByteArray.ext (Array.ext' e))
theorem data_ne {a b : ByteArray} (h : ¬ a = b) : (a.data.toList == b.data.toList) = false := by
  rw [beq_eq_false_iff_ne]
  intro e
  exact h (ByteArray.ext (Array.ext' e))
/-- A frame written out: what is put into it, what stands in it (in place of a long list of rules). -/
theorem sA : (∀ (a : Act) (d : Nat) (v : Value), a.put (some d) v = { a with tmps := a.tmps.setIfInBounds d v }) ∧ (∀ (a : Act) (v : Value), a.put none v = a) ∧ (∀ (l : List Value) (i : Nat) (v : Value), l.toArray.setIfInBounds i v = (l.set i v).toArray) ∧ (∀ (x y : Value) (l : List Value), (x :: l).set 0 y = y :: l) ∧ (∀ (x y : Value) (l : List Value) (n : Nat), (x :: l).set (n + 1) y = x :: l.set n y) :=
  ⟨fun _ _ _ => rfl, fun _ _ => rfl, fun _ _ _ => List.setIfInBounds_toArray .., fun _ _ _ => rfl, fun _ _ _ _ => rfl⟩
theorem gA {α : Type} : (∀ (l : List α) (i : Nat) (h : i < l.toArray.size), l.toArray[i] = l[i]'(by simpa using h)) ∧ (∀ (x : α) (l : List α) (h : 0 < (x :: l).length), (x :: l)[0] = x) ∧ (∀ (x : α) (l : List α) (n : Nat) (h : n + 1 < (x :: l).length), (x :: l)[n + 1] = l[n]'(by simpa using h)) :=
  ⟨fun _ _ _ => List.getElem_toArray .., fun _ _ _ => rfl, fun _ _ _ _ => rfl⟩
end Go.Proofs.YtbhagfdkipgggaaDoor
namespace Go.Proofs.YtbhagfdkipgggaaDoor
/-- The whole blocks of a message are compressed, k of them. -/
def sblocks (s : S8) : Nat → List UInt8 → S8
  | 0, _ => s
  | k + 1, b => sblocks (scomp s (b.take 64)) k (b.drop 64)
theorem sblocks_more (k : Nat) : ∀ (j : Nat) (s : S8) (b : List UInt8), sblocks s (j + k) b = sblocks (sblocks s j b) k (b.drop (64 * j)) := by
  intro j
  induction j with
  | zero => intro s b; rw [Nat.zero_add, Nat.mul_zero, List.drop_zero]; rfl
  | succ j ih =>
    intro s b
    rw [Nat.succ_add]
    show sblocks (scomp s (b.take 64)) (j + k) (b.drop 64) = sblocks (sblocks (scomp s (b.take 64)) j (b.drop 64)) k (b.drop (64 * (j + 1)))
    rw [ih, List.drop_drop, show 64 * (j + 1) = 64 + 64 * j by omega]
theorem sblocks_one (s : S8) (j : Nat) (b : List UInt8) : sblocks s (j + 1) b = scomp (sblocks s j b) ((b.drop (64 * j)).take 64) := by
  rw [sblocks_more 1 j s b]
  rfl
theorem sblocks_left (c : List UInt8) : ∀ (k : Nat) (s : S8) (b : List UInt8), 64 * k ≤ b.length → sblocks s k (b ++ c) = sblocks s k b := by
  intro k
  induction k with
  | zero => intro s b _; rfl
  | succ k ih =>
    intro s b h
    show sblocks (scomp s ((b ++ c).take 64)) k ((b ++ c).drop 64) = sblocks (scomp s (b.take 64)) k (b.drop 64)
    rw [List.take_append_of_le_length (by omega), List.drop_append_of_le_length (by omega), ih _ _ (by rw [List.length_drop]; omega)]
/-- The bytes of a message behind its whole blocks. -/
def rest64 (b : List UInt8) : List UInt8 := b.drop (64 * (b.length / 64))
theorem rest64_len (b : List UInt8) : (rest64 b).length = b.length % 64 := by
  unfold rest64
  rw [List.length_drop]
  omega
/-- A stream that has taken m: the words s, the block's bytes k (behind m's rest they may be any). -/
structure StrOf (iv : S8) (m : List UInt8) (s : S8) (k : List UInt8) : Prop where
  st : s = sblocks iv (m.length / 64) m
  len : k.length = 64
  pre : k.take (m.length % 64) = rest64 m
theorem strOf_start (iv : S8) (k : List UInt8) (h : k.length = 64) : StrOf iv [] iv k := ⟨rfl, h, rfl⟩
theorem drop_rest (m t : List UInt8) : (m ++ t).drop (64 * (m.length / 64)) = rest64 m ++ t := by
  unfold rest64
  rw [List.drop_append_of_le_length (by omega)]
theorem strOf_part {iv : S8} {m : List UInt8} {s : S8} {k t : List UInt8} (h : StrOf iv m s k) (ht : m.length % 64 + t.length < 64) :
    StrOf iv (m ++ t) s (k.take (m.length % 64) ++ t ++ k.drop (m.length % 64 + t.length)) := by
  have hk := h.len
  have e1 : (m ++ t).length / 64 = m.length / 64 := by rw [List.length_append]; omega
  have e2 : (m ++ t).length % 64 = m.length % 64 + t.length := by rw [List.length_append]; omega
  have e3 : (k.take (m.length % 64) ++ t).length = m.length % 64 + t.length := by rw [List.length_append, List.length_take]; omega
  refine ⟨?_, ?_, ?_⟩
  · rw [e1, sblocks_left t _ _ _ (by omega)]
    exact h.st
  · rw [List.length_append, e3, List.length_drop]
    omega
  · rw [e2, ← e3, List.take_left', h.pre]
    · unfold rest64
      rw [e1, List.drop_append_of_le_length (by omega)]
    · rfl
theorem strOf_full {iv : S8} {m : List UInt8} {s : S8} {k t : List UInt8} (h : StrOf iv m s k) (ht : m.length % 64 + t.length = 64) :
    StrOf iv (m ++ t) (scomp s (k.take (m.length % 64) ++ t)) (k.take (m.length % 64) ++ t) := by
  have hk := h.len
  have e1 : (m ++ t).length / 64 = m.length / 64 + 1 := by rw [List.length_append]; omega
  have e2 : (m ++ t).length % 64 = 0 := by rw [List.length_append]; omega
  have e3 : (k.take (m.length % 64) ++ t).length = 64 := by rw [List.length_append, List.length_take]; omega
  refine ⟨?_, e3, ?_⟩
  · rw [e1, sblocks_one, sblocks_left t _ _ _ (by omega), drop_rest, ← h.pre, List.take_of_length_le (Nat.le_of_eq e3), ← h.st]
  · rw [e2, List.take_zero]
    symm
    apply List.eq_nil_of_length_eq_zero
    rw [rest64_len, e2]
end Go.Proofs.YtbhagfdkipgggaaDoor
namespace Go.Proofs.YtbhagfdkipgggaaDoor
open Go.RowKit Go.Shelf
attribute [local go_sem] Oper.semAt_some
def iv : S8 := ⟨0x6a09e667, 0xbb67ae85, 0x3c6ef372, 0xa54ff53a, 0x510e527f, 0x9b05688c, 0x1f83d9ab, 0x5be0cd19⟩
/-- A stream's value. -/
def strL (s : S8) (k : List UInt8) (n : Nat) : List Value := (s8V s).toList ++ k.map (fun x => .int .u8 (x.toNat : Int)) ++ [.int .u64 (n : Int)]
theorem infoStr : (Tryd.prog.info? 129).map (·.size) = some 73 := by kernel_rfl
theorem strIv_size : (strL iv (List.replicate 64 0) 0).toArray.size = 73 := by kernel_rfl
theorem zeroStr_size : (Tryd.zeroCells129).size = 73 := by kernel_rfl
theorem begin_any (w : World) : Calls Tryd.prog 97 #[] w fun e w' => e = .returned (.agg (strL iv (List.replicate 64 0) 0).toArray) ∧ Below w.heap.size w w' := by
  go_enter Tryd.func97, Tryd.ntmps97
  have hBk := Blk.new w 129 Tryd.zeroCells129
  have hBl := (Below.refl _ w).alloc (Nat.le_refl _) (.cells Tryd.zeroCells129 129)
  go_wp2_with (first | (refine wpList_store_mid rfl 129 _ _ rfl w.heap.size 0 (strL iv (List.replicate 64 0) 0).toArray rfl rfl ?hA ?hB ?hC ?_) | fail)
  case hA => exact there_of_blk hBk (by rw [strIv_size, zeroStr_size]; exact Nat.le_refl _)
  case hB => rw [strIv_size]; exact infoStr
  case hC => kernel_rfl
  simp only [Act.put]
  exact bodyPost_ret (results_c (P := Tryd.prog) rfl _ _ w.heap.size 129 (strL iv (List.replicate 64 0) 0).toArray _ rfl (blk_setWhole hBk (strL iv (List.replicate 64 0) 0) (by rw [zeroStr_size]; rfl)) Tryd.underlying129 rfl (by rw [strIv_size]; exact infoStr)) rfl ⟨rfl, below_setCells (Nat.le_refl _) _ _ _ hBl⟩
end Go.Proofs.YtbhagfdkipgggaaDoor
namespace Go.Proofs.YtbhagfdkipgggaaDoor
open Go.RowKit Go.Shelf
theorem s8V_len (s : S8) : (s8V s).toList.length = 8 := rfl
theorem strL_len (s : S8) (k : List UInt8) (n : Nat) : (strL s k n).length = 8 + k.length + 1 := by
  unfold strL
  rw [List.length_append, List.length_append, List.length_map, s8V_len]
  rfl
theorem strL_word (s : S8) (k : List UInt8) (n j : Nat) (h : j < 8) : (strL s k n)[j]? = some (u32v (s.get j)) := by
  unfold strL
  rw [List.append_assoc, List.getElem?_append_left (by rw [s8V_len]; exact h), Array.getElem?_toList]
  exact s8V_at s j h
theorem strL_byte (s : S8) (k : List UInt8) (n i : Nat) (x : UInt8) (h : k[i]? = some x) : (strL s k n)[8 + i]? = some (.int .u8 (x.toNat : Int)) := by
  have hi : i < k.length := (List.getElem?_eq_some_iff.1 h).1
  unfold strL
  rw [List.append_assoc, List.getElem?_append_right (by rw [s8V_len]; omega), s8V_len, Nat.add_sub_cancel_left, List.getElem?_append_left (by rw [List.length_map]; exact hi), List.getElem?_map, h]
  rfl
theorem strL_n (s : S8) (k : List UInt8) (n : Nat) (h : k.length = 64) : (strL s k n)[72]? = some (.int .u64 (n : Int)) := by
  unfold strL
  rw [List.getElem?_append_right (by rw [List.length_append, List.length_map, s8V_len]; omega), List.length_append, List.length_map, s8V_len, h]
  rfl
theorem str_bytes {w : World} {g : Nat} {t : TypeId} {s : S8} {k : List UInt8} {n : Nat} (h : Blk w g t (strL s k n).toArray) : BytesAt w g 8 k :=
  ⟨h.lt, fun i x hx => by rw [h.cell, List.getElem?_toArray]; exact strL_byte s k n i x hx⟩
theorem str_word {w : World} {g : Nat} {t : TypeId} {s : S8} {k : List UInt8} {n : Nat} (h : Blk w g t (strL s k n).toArray) (j : Nat) (hj : j < 8) : w.cell? ⟨g, j, none⟩ = some (u32v (s.get j)) := by
  rw [h.cell, List.getElem?_toArray]
  exact strL_word s k n j hj
theorem str_n {w : World} {g : Nat} {t : TypeId} {s : S8} {k : List UInt8} {n : Nat} (h : Blk w g t (strL s k n).toArray) (hk : k.length = 64) : w.cell? ⟨g, 72, none⟩ = some (.int .u64 (n : Int)) := by
  rw [h.cell, List.getElem?_toArray]
  exact strL_n s k n hk
end Go.Proofs.YtbhagfdkipgggaaDoor
namespace Go.Proofs.YtbhagfdkipgggaaDoor
open Go.RowKit
theorem run_copy_text {P : Program} (w : World) (dT sT ty elem : TypeId) (size g o dLen dCap : Nat) (b : ByteArray) (cur : Array Value) (t : TypeId) (cs : List Value)
    (hu : P.underlying dT = some (.slice elem)) (hs : (P.info? elem).map (·.size) = some size)
    (hcs : List.take (Nat.min b.size dLen) (List.map (fun b : UInt8 => Value.int .u8 (b.toNat : Int)) b.data.toList) = cs) (hg : w.heap[g]? = some (.cells cur t (0, 0)))
    (hfit : o + cs.length ≤ cur.size) (h1 : ∀ v ∈ cs, v.oneCell' = true) :
    (Builtin.copy_ #[dT, sT] ty #[.slice (some ⟨g, o, none⟩) dLen dCap, .string b]).run P w =
      .ok (goInt (Nat.min b.size dLen)) (w.setRow g (cur.toList.take o ++ cs ++ cur.toList.drop (o + cs.length)).toArray) := by
  have hst := run_storeCells_at P g o t cs 0 cur w hg (by simpa using hfit) h1
  cases hq : P.info? elem with
  | none => simp [hq] at hs
  | some i =>
    simp [Builtin.copy_, run_underlying hu, Builtin.lenOf, Builtin.firstCells, sizeOf, typeInfo, hq, hcs, hst]

theorem wpList_copy_text {P : Program} {w : World} {ops : Array Oper} {rest : List Oper} {o : Oper} {a : Act} {Q : Exit → Act → World → Prop} (hgd : o.guard = none) (d s : Operand) (dT sT : TypeId)
    (ho : o.op = .call { callee := .builtin .copy, args := #[d, s], argTypes := #[dT, sT] }) (elem : TypeId) (size : Nat) (hu : P.underlying dT = some (.slice elem)) (hsz : (P.info? elem).map (·.size) = some size)
    (g off dLen dCap : Nat) (b : ByteArray) (hd : a.eval d = .slice (some ⟨g, off, none⟩) dLen dCap) (hs : a.eval s = .string b)
    (cur : Array Value) (t : TypeId) (cs : List Value) (hcs : List.take (Nat.min b.size dLen) (List.map (fun b : UInt8 => Value.int .u8 (b.toNat : Int)) b.data.toList) = cs) (hg : w.heap[g]? = some (.cells cur t (0, 0)))
    (hfit : off + cs.length ≤ cur.size) (h1 : ∀ v ∈ cs, v.oneCell' = true)
    (h : wpList P ops Q rest (a.put o.dst (goInt (Nat.min b.size dLen))) (w.setRow g (cur.toList.take off ++ cs ++ cur.toList.drop (off + cs.length)).toArray)) : wpList P ops Q (o :: rest) a w := by
  refine wpList_plain hgd fun K hK => ?_
  have hrun := run_copy_text (P := P) w dT sT o.type elem size g off dLen dCap b cur t cs hu hsz hcs hg hfit h1
  unfold Oper.wp
  simp [execOp, ho, resolve, invoke, builtin, hd, hs, hrun, Result.andThen]
  exact hK _ _ (by simpa using h)
end Go.Proofs.YtbhagfdkipgggaaDoor
namespace Go.Proofs.YtbhagfdkipgggaaDoor
open Go.RowKit Go.Shelf
def byteV (x : UInt8) : Value := .int .u8 (x.toNat : Int)
theorem strL_eq (s : S8) (k : List UInt8) (n : Nat) : strL s k n = (s8V s).toList ++ k.map byteV ++ [.int .u64 (n : Int)] := rfl
theorem str_size (s : S8) (k : List UInt8) (n : Nat) (hk : k.length = 64) : (strL s k n).toArray.size = 73 := by
  rw [List.size_toArray, strL_len, hk]
/-- Some bytes are copied into the block. -/
theorem str_copied (s : S8) (k c : List UInt8) (n o : Nat) (hk : k.length = 64) (ho : o + c.length ≤ 64) :
    (strL s k n).toArray.toList.take (8 + o) ++ c.map byteV ++ (strL s k n).toArray.toList.drop (8 + o + (c.map byteV).length) = strL s (k.take o ++ c ++ k.drop (o + c.length)) n := by
  have e8 := s8V_len s
  rw [strL_eq, strL_eq, List.length_map, List.append_assoc (s8V s).toList]
  have hA : (s8V s).toList.length = 8 := e8
  generalize (s8V s).toList = A at *
  have hN : ([Value.int .u64 (n : Int)] : List Value).length = 1 := rfl
  generalize ([Value.int .u64 (n : Int)] : List Value) = N at *
  show (A ++ (k.map byteV ++ N)).take (8 + o) ++ c.map byteV ++ (A ++ (k.map byteV ++ N)).drop (8 + o + c.length) = _
  rw [← hA, Nat.add_assoc, List.take_length_add_append, List.drop_length_add_append, List.take_append_of_le_length (by rw [List.length_map]; omega), List.drop_append_of_le_length (by rw [List.length_map]; omega)]
  simp only [List.map_append, List.map_take, List.map_drop, List.append_assoc]
theorem str_copy {w : World} {g : Nat} {t : TypeId} {s : S8} {k : List UInt8} {n : Nat} (h : Blk w g t (strL s k n).toArray) (c : List UInt8) (o : Nat) (hk : k.length = 64) (ho : o + c.length ≤ 64) :
    Blk (w.setRow g ((strL s k n).toArray.toList.take (8 + o) ++ c.map byteV ++ (strL s k n).toArray.toList.drop (8 + o + (c.map byteV).length)).toArray) g t (strL s (k.take o ++ c ++ k.drop (o + c.length)) n).toArray := by
  rw [str_copied s k c n o hk ho]
  exact setRow_heap w g _ _ t (0, 0) h
/-- The length is changed. -/
theorem str_setn {w : World} {g : Nat} {t : TypeId} {s : S8} {k : List UInt8} {n : Nat} (h : Blk w g t (strL s k n).toArray) (hk : k.length = 64) (m : Nat) : Blk (w.setCell ⟨g, 72, none⟩ (.int .u64 (m : Int))) g t (strL s k m).toArray := by
  have h1 := h.set_ 72 (.int .u64 (m : Int))
  have e : (strL s k n).toArray.setIfInBounds 72 (.int .u64 (m : Int)) = (strL s k m).toArray := by
    rw [strL_eq, strL_eq, List.setIfInBounds_toArray, List.set_append_right _ _ (by rw [List.length_append, List.length_map, s8V_len, hk]; exact Nat.le_refl _), List.length_append, List.length_map, s8V_len, hk]
    rfl
  rw [e] at h1
  exact h1
def set8 (w : World) (g : Nat) (s : S8) : World := w.setCells g 0 [u32v s.a, u32v s.b, u32v s.c, u32v s.d, u32v s.e, u32v s.f, u32v s.g, u32v s.h]
theorem past8 (s : S8) (l : List Value) (j : Nat) (h : ¬ j < 8) : ((s8V s).toList ++ l)[j]? = l[j - 8]? := by
  rw [List.getElem?_append_right (by rw [s8V_len]; omega), s8V_len]
/-- The state is changed. -/
theorem str_sets {w : World} {g : Nat} {t : TypeId} {s : S8} {k : List UInt8} {n : Nat} (h : Blk w g t (strL s k n).toArray) (hk : k.length = 64) (s' : S8) : Blk (set8 w g s') g t (strL s' k n).toArray := by
  obtain ⟨ds, h1, h2, h3, h4⟩ := blk_setCells [u32v s'.a, u32v s'.b, u32v s'.c, u32v s'.d, u32v s'.e, u32v s'.f, u32v s'.g, u32v s'.h] 0 w _ h
  have e : ds = (strL s' k n).toArray := by
    apply Array.ext_getElem?
    intro j
    rw [show (strL s' k n).toArray[j]? = (strL s' k n)[j]? from List.getElem?_toArray]
    by_cases hj : j < 8
    · rw [h3 j (Nat.zero_le _) (by simp only [List.length_cons, List.length_nil]; omega) (by rw [str_size _ _ _ hk]; omega), strL_word _ _ _ j hj, ← s8V_at s' j hj, Nat.sub_zero, show s8V s' = [u32v s'.a, u32v s'.b, u32v s'.c, u32v s'.d, u32v s'.e, u32v s'.f, u32v s'.g, u32v s'.h].toArray from rfl, List.getElem?_toArray]
    · rw [h4 j (.inr (by simp only [List.length_cons, List.length_nil]; omega)), List.getElem?_toArray, strL_eq, strL_eq, List.append_assoc (s8V s).toList, List.append_assoc (s8V s').toList, past8 s _ j hj, past8 s' _ j hj]
  rw [e] at h1
  exact h1
theorem set8_below {B : Nat} {w0 w : World} {g : Nat} (s : S8) (hg : B ≤ g) (h : Below B w0 w) : Below B w0 (set8 w g s) := below_setCells hg _ 0 w h
theorem str_old {w : World} {g : Nat} {t : TypeId} {s : S8} {k : List UInt8} {n : Nat} (h : Blk w g t (strL s k n).toArray) (i : Nat) : w.frozen? ⟨g, i, none⟩ = false := h.frozen i
end Go.Proofs.YtbhagfdkipgggaaDoor
namespace Go.Proofs.YtbhagfdkipgggaaDoor


section
variable {P : Program} {ops : Array Oper} {Q : Exit → Act → World → Prop} {md : Region.Mode} {S : World → Prop} {k : Nat}

/-- Whatever order is picked from here on; S holds behind every operation but number k. -/
def wpAnyK (P : Program) (md : Region.Mode) (ops : Array Oper) (Q : Exit → Act → World → Prop) (S : World → Prop) (k : Nat) : Nat → Array Bool → Act → World → Prop
  | 0, listed, a, w => Region.ready md ops listed = [] ∧ Q .normal a w
  | fuel + 1, listed, a, w =>
    (Region.ready md ops listed = [] → Q .normal a w) ∧
    ∀ i ∈ Region.ready md ops listed, wpOp P ops Q i (fun a' w' => (i ≠ k → S w') ∧ wpAnyK P md ops Q S k fuel (listed.setIfInBounds i true) a' w') a w
theorem wpAny_of_K : ∀ (fuel : Nat) (listed : Array Bool) (a : Act) (w : World), wpAnyK P md ops Q S k fuel listed a w → wpAny P md ops Q fuel listed a w
  | 0, _, _, _, h => h
  | fuel + 1, _, _, _, h => ⟨h.1, fun i hi => wpOp_mono (fun a' w' h' => wpAny_of_K fuel _ a' w' h'.2) (h.2 i hi)⟩
/-- What has come up has come up behind what it waits for. -/
def InOrder (md : Region.Mode) (ops : Array Oper) (listed : Array Bool) : Prop := ∀ (j : Nat) (o : Oper), ops[j]? = some o → listed.getD j false = true → ∀ e ∈ o.after, Region.binds md e = true → listed.getD e.on false = true
def inOrderB (md : Region.Mode) (ops : Array Oper) (listed : Array Bool) : Bool := (List.range ops.size).all fun j => match ops[j]? with
  | none => true
  | some o => !listed.getD j false || o.after.all fun e => !Region.binds md e || listed.getD e.on false
theorem inOrder_of {listed : Array Bool} (h : inOrderB md ops listed = true) : InOrder md ops listed := by
  intro j o ho hj e he hb
  unfold inOrderB at h
  rw [List.all_eq_true] at h
  have h1 := h j (List.mem_range.2 (Array.getElem?_eq_some_iff.1 ho).1)
  rw [ho] at h1
  simp only [hj, Bool.not_true, Bool.false_or] at h1
  have h2 := Array.all_eq_true_iff_forall_mem.1 h1 e he
  simpa [hb] using h2
theorem getD_false {listed : Array Bool} {j : Nat} (h : listed.getD j true = false) : listed.getD j false = false := by
  rcases Nat.lt_or_ge j listed.size with h' | h'
  · simp [h'] at h ⊢
    exact h
  · simp [Array.getElem?_eq_none h'] at h
theorem inOrder_set {listed : Array Bool} {i : Nat} (h : InOrder md ops listed) (hi : i ∈ Region.ready md ops listed) : InOrder md ops (listed.setIfInBounds i true) := by
  intro j o ho hj e he hb
  by_cases hji : i = j
  · subst hji
    obtain ⟨_, o', ho', hall⟩ := mem_ready.1 hi
    rw [ho] at ho'
    cases ho'
    exact getD_set_true (hall e he hb)
  · rw [getD_set_ne false hji] at hj
    exact getD_set_true (h j o ho hj e he hb)
/-- Number j waits for number i, by way of others. -/
def waits (md : Region.Mode) (ops : Array Oper) (i : Nat) : Nat → Nat → Bool
  | 0, _ => false
  | f + 1, j => match ops[j]? with
    | none => false
    | some o => o.after.any fun e => Region.binds md e && (e.on == i || waits md ops i f e.on)
theorem waits_listed {i : Nat} {listed : Array Bool} (h : InOrder md ops listed) : ∀ (f j : Nat), waits md ops i f j = true → (∀ o, ops[j]? = some o → ∀ e ∈ o.after, Region.binds md e = true → listed.getD e.on false = true) → listed.getD i false = true
  | 0, _, hw, _ => by cases hw
  | f + 1, j, hw, hd => by
    unfold waits at hw
    split at hw
    · cases hw
    · rename_i o ho
      obtain ⟨e, he, hc⟩ : ∃ e ∈ o.after, (Region.binds md e && (e.on == i || waits md ops i f e.on)) = true := by
        rw [← Array.any_toList, List.any_eq_true] at hw
        obtain ⟨e, he, hc⟩ := hw
        exact ⟨e, Array.mem_toList_iff.1 he, hc⟩
      simp only [Bool.and_eq_true, Bool.or_eq_true, beq_iff_eq] at hc
      obtain ⟨hb, h1 | h1⟩ := hc
      · have := hd o ho e he hb
        rw [h1] at this
        exact this
      · have hl := hd o ho e he hb
        exact waits_listed h f e.on h1 fun o' ho' e' he' hb' => h e.on o' ho' hl e' he' hb'

theorem wpAnyK_first {i : Nat} {oi : Oper} {v : Value} (hi : ops[i]? = some oi) (hsel : ∀ (j : Nat) (o : Oper) cs b, ops[j]? = some o → o.op ≠ .select cs b)
    (hQ : ∀ c a w, Q (.panic c) (a.put oi.dst v) w → Q (.panic c) a w) (f : Nat) (hk : waits md ops i f k = true) :
    ∀ (fuel : Nat) (listed : Array Bool) (a : Act) (w : World), InOrder md ops listed →
      (∀ j oj, ops[j]? = some oj → j ≠ i → listed.getD j true = false → (∀ e ∈ oj.after, Region.binds md e = true → e.on ≠ i) → oi.apart ops oj = true) →
      i ∈ Region.ready md ops listed → YieldsIf P ops S oi v a → S w → i ≠ k →
      wpAnyK P md ops Q S k fuel (listed.setIfInBounds i true) (a.put oi.dst v) w → wpAnyK P md ops Q S k (fuel + 1) listed a w := by
  intro fuel
  induction fuel with
  | zero =>
    intro listed a w _ _ hr hy hS hik H
    refine ⟨fun h => (by rw [h] at hr; cases hr), fun j hj => ?_⟩
    by_cases hji : j = i
    · subst hji; exact hy.wpOp hi hS ⟨fun _ => hS, H⟩
    · have := ready_mono hj hji
      rw [H.1] at this
      cases this
  | succ fuel ih =>
    intro listed a w hord hfree hr hy hS hik H
    refine ⟨fun h => (by rw [h] at hr; cases hr), fun j hj => ?_⟩
    by_cases hji : j = i
    · subst hji; exact hy.wpOp hi hS ⟨fun _ => hS, H⟩
    · have hjk : j ≠ k := by
        rintro rfl
        have h1 := waits_listed hord f j hk fun o ho e he hb => by
          obtain ⟨_, o', ho', hall⟩ := mem_ready.1 hj
          rw [ho] at ho'
          cases ho'
          exact hall e he hb
        rw [getD_false (mem_ready.1 hr).1] at h1
        cases h1
      have h1 := H.2 j (ready_mono hj hji)
      obtain ⟨hjun, oj, hoj, hall⟩ := mem_ready.1 hj
      have hnot : ∀ e ∈ oj.after, Region.binds md e = true → e.on ≠ i := fun e he hb heq => by
        have h1 := hall e he hb
        rw [heq, getD_false (mem_ready.1 hr).1] at h1
        cases h1
      have h2 := wpOp_putIf hoj (hfree j oj hoj hji hjun hnot) (fun cs b => hsel i oi cs b hi) (fun cs b => hsel j oj cs b hoj) hQ hy h1
      have hfree' : ∀ k ok, ops[k]? = some ok → k ≠ i → (listed.setIfInBounds j true).getD k true = false →
          (∀ e ∈ ok.after, Region.binds md e = true → e.on ≠ i) → oi.apart ops ok = true := fun k ok hk hki hun hno => by
        refine hfree k ok hk hki ?_ hno
        by_cases hjk : j = k
        · subst hjk; exact hjun
        · rw [getD_set_ne true hjk] at hun; exact hun
      refine wpOp_mono (fun a' w' h3 => ⟨h3.2.1, ih (listed.setIfInBounds j true) a' w' (inOrder_set hord hj) hfree' (ready_mono hr (Ne.symm hji)) h3.1 (h3.2.1 hjk) hik ?_⟩) h2
      rw [Array.setIfInBounds_comm _ _ hji]
      exact h3.2.2
/-- Take number i first: number k waits for it. -/
theorem wpAnyK_take {i : Nat} {oi : Oper} {v : Value} {fuel : Nat} {listed : Array Bool} {a : Act} {w : World} (hi : ops[i]? = some oi)
    (hs : Region.noSelect ops = true) (hf : Region.free md ops listed i = true) (hr : (Region.ready md ops listed).contains i = true) (ho : inOrderB md ops listed = true) (hk : (waits md ops i ops.size k && !(i == k)) = true)
    (hQ : ∀ c a w, Q (.panic c) (a.put oi.dst v) w → Q (.panic c) a w) (hy : YieldsIf P ops S oi v a) (hS : S w)
    (h : wpAnyK P md ops Q S k fuel (listed.setIfInBounds i true) (a.put oi.dst v) w) : wpAnyK P md ops Q S k (fuel + 1) listed a w := by
  simp only [Bool.and_eq_true, Bool.not_eq_true', beq_eq_false_iff_ne] at hk
  exact wpAnyK_first hi (Region.noSelect_spec hs) hQ ops.size hk.1 fuel listed a w (inOrder_of ho) (Region.free_spec hi hf) (by simpa using hr) hy hS hk.2 h
/-- Each of the operations 'rs' comes up next. -/
def AllReadyK (P : Program) (md : Region.Mode) (ops : Array Oper) (Q : Exit → Act → World → Prop) (S : World → Prop) (k fuel : Nat) (listed : Array Bool) (a : Act) (w : World) (rs : List Nat) : Prop :=
  ∀ i ∈ rs, wpOp P ops Q i (fun a' w' => (i ≠ k → S w') ∧ wpAnyK P md ops Q S k fuel (listed.setIfInBounds i true) a' w') a w
theorem AllReadyK.nil {fuel : Nat} {listed : Array Bool} {a : Act} {w : World} : AllReadyK P md ops Q S k fuel listed a w [] := fun _ h => by cases h
theorem AllReadyK.cons {fuel : Nat} {listed : Array Bool} {a : Act} {w : World} {i : Nat} {o : Oper} {rs : List Nat} (ho : ops[i]? = some o)
    (h : ∀ K' : Act → World → Prop, Shut (∀ a w, S w → (S w → wpAnyK P md ops Q S k fuel (listed.setIfInBounds i true) a w) → K' a w) → if Region.wanted o (yielded ops a.tmps) = true then Oper.wp P o a w K' Q else K' (a.put o.dst undef) w)
    (hs : AllReadyK P md ops Q S k fuel listed a w rs) : AllReadyK P md ops Q S k fuel listed a w (i :: rs) := fun j hj => by
  rcases List.mem_cons.1 hj with rfl | hj
  · exact wpOp_step ho (fun K' hK => h K' (fun a w hS hW => hK a w ⟨fun _ => hS, hW hS⟩))
  · exact hs j hj
/-- Number k itself. -/
theorem AllReadyK.last {fuel : Nat} {listed : Array Bool} {a : Act} {w : World} {o : Oper} (ho : ops[k]? = some o)
    (h : ∀ K' : Act → World → Prop, Shut (∀ a w, wpAnyK P md ops Q S k fuel (listed.setIfInBounds k true) a w → K' a w) → if Region.wanted o (yielded ops a.tmps) = true then Oper.wp P o a w K' Q else K' (a.put o.dst undef) w) :
    AllReadyK P md ops Q S k fuel listed a w [k] := fun j hj => by
  obtain rfl : j = k := by simpa using hj
  exact wpOp_step ho (fun K' hK => h K' (fun a w hW => hK a w ⟨fun e => absurd rfl e, hW⟩))
theorem wpAnyK_ready {rs : List Nat} {fuel : Nat} {listed : Array Bool} {a : Act} {w : World} (hr : Region.ready md ops listed = rs) (hne : rs ≠ [])
    (h : AllReadyK P md ops Q S k fuel listed a w rs) : wpAnyK P md ops Q S k (fuel + 1) listed a w := ⟨fun h0 => absurd (hr ▸ h0) hne, hr ▸ h⟩
theorem wpAnyK_done {listed : Array Bool} {a : Act} {w : World} (hr : Region.ready md ops listed = []) (h : Q .normal a w) :
    ∀ fuel, wpAnyK P md ops Q S k fuel listed a w
  | 0 => ⟨hr, h⟩
  | _ + 1 => ⟨fun _ => h, by rw [hr]; simp⟩
theorem wp_region_last {id : Nat} {a : Act} {w : World} (k : Nat) (hm : P.follows .mixedOrders = true) (hS : S w.drew)
    (h : S w.drew → wpAnyK P .any ops Q S k ops.size (Array.replicate ops.size false) a w.drew) : (Code.region id ops true).wp P Q a w :=
  wp_region_any hm (wpAny_of_K _ _ _ _ (h hS))
end
end Go.Proofs.YtbhagfdkipgggaaDoor
namespace Go.Proofs.YtbhagfdkipgggaaDoor
open Go.RowKit Go.Shelf
attribute [local go_sem] Oper.semAt_some
/-- A text's bytes. -/
def bl (x : ByteArray) : List UInt8 := x.data.toList
theorem bl_len (x : ByteArray) : (bl x).length = x.size := by
  unfold bl
  rw [Array.length_toList]
  rfl
theorem bl_extract (y : ByteArray) (a : Nat) (_h : a ≤ y.size) : bl (y.extract a y.size) = (bl y).drop a := by
  unfold bl
  rw [ByteArray.data_extract, Array.toList_extract, List.extract_eq_take_drop, List.take_of_length_le]
  rw [List.length_drop, Array.length_toList]
  exact Nat.le_refl _
def textLen : Value → Nat
  | .string y => y.size
  | _ => 0
/-- The call under way: so much of the text is taken. -/
structure AddAt (w wr : World) (m l : List UInt8) (d : Nat) : Prop where
  ex : ∃ s k, Blk wr w.heap.size 129 (strL s k (m.length + d)).toArray ∧ StrOf iv (m ++ l.take d) s k
  fr : ∃ cs, Blk wr (w.heap.size + 1) 129 cs ∧ cs.size = 73
  bel : Below w.heap.size w wr
theorem text_eq {x y : ByteArray} (h : x = y) : (x.toList == y.toList) = true := by rw [h]; exact beq_self_eq_true _
theorem text_ne {x y : ByteArray} (h : x ≠ y) : (x.toList == y.toList) = false := by
  rw [beq_eq_false_iff_ne, ByteArray.toList_eq, ByteArray.toList_eq]
  exact fun e => h (by apply ByteArray.ext; exact Array.ext' e)
theorem byteV_one (l : List UInt8) : ∀ v ∈ l.map byteV, v.oneCell' = true := by
  intro v hv
  obtain ⟨x, _, rfl⟩ := List.mem_map.1 hv
  rfl
theorem take_min {α : Type} (l : List α) (a : Nat) : l.take (min l.length a) = l.take a := by
  rcases Nat.le_total l.length a with h | h
  · rw [Nat.min_eq_left h, List.take_length, List.take_of_length_le h]
  · rw [Nat.min_eq_right h]
theorem infoU8 : (Tryd.prog.info? 5).map (·.size) = some 1 := by kernel_rfl
/-- The builtin copy of a text into a stream's block. -/
theorem wp_copy_str {w : World} {ops : Array Oper} {rest : List Oper} {op : Oper} {a : Act} {Q : Exit → Act → World → Prop} (hgd : op.guard = none) (d s : Operand)
    (ho : op.op = .call { callee := .builtin .copy, args := #[d, s], argTypes := #[65, 9] }) (g o : Nat) (y : ByteArray) (st : S8) (k : List UInt8) (n kk : Nat) (hd : a.eval d = .slice (some ⟨g, 8 + o, none⟩) (64 - o) (64 - o)) (hs : a.eval s = .string y)
    (hB : Blk w g 129 (strL st k n).toArray) (hk : k.length = 64) (hole : o < 64) (hkk : Nat.min y.size (64 - o) = kk)
    (h : ∀ W2 : World, Blk W2 g 129 (strL st (k.take o ++ (bl y).take kk ++ k.drop (o + kk)) n).toArray → w.grownBy W2 (some g) → (∀ B w0, B ≤ g → Below B w0 w → Below B w0 W2) → wpList Tryd.prog ops Q rest (a.put op.dst (goInt kk)) W2) : wpList Tryd.prog ops Q (op :: rest) a w := by
  have hlen : ((bl y).take kk).length = kk := by
    rw [List.length_take, bl_len, ← hkk]
    show min (min y.size (64 - o)) y.size = min y.size (64 - o)
    omega
  have hle : o + kk ≤ 64 := by
    have : kk ≤ 64 - o := by rw [← hkk]; exact Nat.min_le_right _ _
    omega
  refine wpList_copy_text hgd d s _ _ ho 5 1 Tryd.underlying65 infoU8 g (8 + o) (64 - o) (64 - o) y hd hs (strL st k n).toArray 129 (((bl y).take kk).map byteV) ?_ hB ?_ (byteV_one _) ?_
  · rw [hkk, List.map_take]
    rfl
  · rw [List.length_map, hlen, str_size _ _ _ hk]
    omega
  · rw [hkk]
    have hc := str_copy hB ((bl y).take kk) o hk (by rw [hlen]; exact hle)
    rw [hlen] at hc
    exact h _ hc ⟨rfl, rfl, rfl, by simp, fun j _ hne => setRow_other _ _ _ _ (fun e => hne (by rw [e]))⟩ (fun B w0 hBg hb => below_setRow hb hBg _)
theorem cut_len (k l : List UInt8) {o kk n : Nat} (hk : k.length = 64) (h : o + kk ≤ 64) (hl : Nat.min n (64 - o) = kk) (hn : l.length = n) : (k.take o ++ l.take kk ++ k.drop (o + kk)).length = 64 := by
  have : kk ≤ n := by rw [← hl]; exact Nat.min_le_left _ _
  rw [List.length_append, List.length_append, List.length_take, List.length_take, List.length_drop]
  omega
theorem u64_is (n : Nat) (h : n < 18446744073709551616) : IntKind.u64.wrap (n : Int) = (n : Int) := by rw [IntKind.wrap_u64]; omega
theorem w64_is (n : Nat) (h : n < 9223372036854775808) : wrap64 (n : Int) = (n : Int) := by unfold wrap64; omega
theorem w64_sum (a b n : Nat) (h : a + b = n) (hn : n < 9223372036854775808) : wrap64 ((a : Int) + (b : Int)) = (n : Int) := by
  rw [← w64_is n hn, ← h]
  rfl
theorem int_ne (a b : Nat) (h : ¬ a + b = 64) : ((a : Int) + (b : Int) == 64) = false := by
  rw [beq_eq_false_iff_ne]
  omega
theorem taken_more (m l t : List UInt8) (d kk : Nat) (ht : t = (l.drop d).take kk) : m ++ l.take d ++ t = m ++ l.take (d + kk) := by
  rw [ht, List.append_assoc, List.take_add]
theorem taken_len (l t : List UInt8) (d kk : Nat) (ht : t = (l.drop d).take kk) (hd : d + kk ≤ l.length) : t.length = kk := by
  rw [ht, List.length_take, List.length_drop]
  omega
theorem mlen (m l : List UInt8) (d N : Nat) (hd : d ≤ l.length) (hN : m.length + d = N) : (m ++ l.take d).length = N := by
  rw [List.length_append, List.length_take, Nat.min_eq_left hd]
  exact hN
theorem add_part {m l t : List UInt8} {s : S8} {k : List UInt8} {d kk N o : Nat} (h : StrOf iv (m ++ l.take d) s k) (hN : m.length + d = N) (ho : N % 64 = o) (ht : t = (l.drop d).take kk) (hd : d + kk ≤ l.length) (hl : o + kk ≤ 64) (hne : ¬ o + kk = 64) :
    StrOf iv (m ++ l.take (d + kk)) s (k.take o ++ t ++ k.drop (o + kk)) := by
  have e := mlen m l d N (by omega) hN
  have e2 := taken_len l t d kk ht hd
  have h2 := strOf_part (t := t) h (by rw [e, ho, e2]; omega)
  rw [e, ho, e2, taken_more m l t d kk ht] at h2
  exact h2
theorem add_full {m l t : List UInt8} {s : S8} {k : List UInt8} {d kk N o : Nat} (h : StrOf iv (m ++ l.take d) s k) (hN : m.length + d = N) (ho : N % 64 = o) (ht : t = (l.drop d).take kk) (hd : d + kk ≤ l.length) (hl : o + kk = 64) :
    StrOf iv (m ++ l.take (d + kk)) (scomp s (k.take o ++ t ++ k.drop (o + kk))) (k.take o ++ t ++ k.drop (o + kk)) := by
  have e := mlen m l d N (by omega) hN
  have e2 := taken_len l t d kk ht hd
  have hk := h.len
  have h2 := strOf_full (t := t) h (by rw [e, ho, e2]; exact hl)
  rw [e, ho, taken_more m l t d kk ht] at h2
  rw [hl, List.drop_of_length_le (by omega), List.append_nil]
  exact h2
theorem grownB {B : Nat} {w w' : World} (h : Below B w w') (hB : w.heap.size ≤ B) (row : Option Nat) : w.grownBy w' row :=
  ⟨h.os, h.tape, h.output, h.size, fun j hj _ => h.block j (Nat.lt_of_lt_of_le hj hB)⟩
theorem setCells_grown (g : Nat) : ∀ (vs : List Value) (o : Nat) (w : World), w.grownBy (w.setCells g o vs) (some g)
  | [], _, w => grownB (Below.refl _ w) (Nat.le_refl _) _
  | v :: r, o, w => grown_tr (grown_set' w g o v) (setCells_grown g r (o + 1) _)
theorem set8_grown (w : World) (g : Nat) (s : S8) : w.grownBy (set8 w g s) (some g) := setCells_grown g _ 0 w
theorem infoStr1 : ∃ a, Tryd.prog.info? 129 = some a ∧ a.size = 8 + 64 + 1 := by
  obtain ⟨a, h1, h2⟩ := Option.map_eq_some_iff.1 infoStr
  exact ⟨a, h1, h2⟩
theorem strL_one (s : S8) (k : List UInt8) (n : Nat) : ∀ v ∈ strL s k n, v.oneCell' = true := by
  intro v hv
  rw [strL_eq] at hv
  rcases List.mem_append.1 hv with h | h
  · rcases List.mem_append.1 h with h | h
    · rw [show (s8V s).toList = [s.a, s.b, s.c, s.d, s.e, s.f, s.g, s.h].map u32v from rfl] at h
      obtain ⟨x, _, rfl⟩ := List.mem_map.1 h
      rfl
    · obtain ⟨x, _, rfl⟩ := List.mem_map.1 h
      rfl
  · rw [List.mem_singleton.1 h]
    rfl
set_option maxRecDepth 100000 in
set_option maxHeartbeats 1600000 in
theorem add_any (w : World) (m : List UInt8) (s : S8) (k : List UInt8) (x : ByteArray) (hS : StrOf iv m s k) (hK : KAt w 1) (hlen : m.length + x.size < 9223372036854775808) :
    Calls Tryd.prog 98 #[.agg (strL s k m.length).toArray, .string x] w fun e w' => ∃ s' k', e = .returned (.agg (strL s' k' (m.length + x.size)).toArray) ∧ StrOf iv (m ++ bl x) s' k' ∧ Below w.heap.size w w' := by
  go_enter Tryd.func98, Tryd.ntmps98
  go_wp2_with fail
  have hA0 : Hid (AddAt w ((w.alloc (Obj.cells (strL s k m.length).toArray 129)).alloc (Obj.cells Tryd.zeroCells129 129)) m (bl x) 0) := by
    have b1 := (Below.refl _ w).alloc (Nat.le_refl _) (Obj.cells (strL s k m.length).toArray 129)
    have bk := Blk.new (w.alloc (Obj.cells (strL s k m.length).toArray 129)) 129 Tryd.zeroCells129
    rw [World.size_alloc] at bk
    exact ⟨⟨s, k, (Blk.new w _ _).alloc _, by rw [List.take_zero, List.append_nil]; exact hS⟩, ⟨_, bk, zeroStr_size⟩, b1.alloc b1.size _⟩
  have hKH := Lib.hid hK
  have hlenH := Lib.hid hlen
  clear hS hK hlen
  go_loopw [1] (fun v wr => ∃ d y, v = .string y ∧ Hid (d ≤ x.size) ∧ Hid (bl y = (bl x).drop d) ∧ Hid (AddAt w wr m (bl x) d)) (fun v _ => textLen v)
  case atStart => exact ⟨0, x, rfl, Nat.zero_le _, rfl, hA0⟩
  case round =>
    clear hA0
    obtain ⟨d, y, rfl, hd, hy, hA⟩ := hrel
    obtain ⟨⟨s1, k1, hB, hST⟩, ⟨cs, hR, hRs⟩, hBel⟩ := hA
    have hk64 := Lib.hid hST.len
    obtain ⟨N, hN⟩ : ∃ N, m.length + d = N := ⟨_, rfl⟩
    rw [hN] at hB
    by_cases h0 : y = ByteArray.empty
    · have dx : y.toList.isEmpty = true := by rw [h0, ByteArray.toList_eq]; rfl
      have hsz73 : Hid ((strL s1 k1 N).toArray.size = 73) := str_size _ _ _ hk64.out
      have hrg := range_of_blk hB
      have hRe := there_of_blk (o := 0) (n := 73) hR (by omega)
      have hy0 : y.size = 0 := by rw [h0]; rfl
      clear h0
      go_wp2_with (first | (refine wpList_load_mid rfl 129 _ rfl w.heap.size 0 rfl (strL s1 k1 N) _ hrg Tryd.underlying129 rfl ?hsz ?_) | (refine wpList_store_mid rfl 129 _ _ rfl (w.heap.size + 1) 0 (strL s1 k1 N).toArray rfl rfl ?hAA ?hBB ?hCC ?_) | fail)
      case hsz => rw [strL_len, hk64.out]; exact infoStr1
      case hAA => rw [strL_len, hk64.out]; exact hRe
      case hBB => rw [strL_len, hk64.out]; exact infoStr1
      case hCC => exact strL_one _ _ _
      have hL := blk_setWhole hR (strL s1 k1 N) (by rw [strL_len, hk64.out, hRs])
      have hBL := below_setCells (g := w.heap.size + 1) (Nat.le_succ _) (strL s1 k1 N) 0 _ hBel
      have hdx : d = x.size := by
        have e := congrArg List.length hy
        rw [List.length_drop, bl_len, bl_len, hy0] at e
        have := hd
        unfold Hid at this
        omega
      exact bodyPost_ret (results_c (P := Tryd.prog) rfl _ _ (w.heap.size + 1) 129 (strL s1 k1 N).toArray _ rfl hL Tryd.underlying129 rfl (by rw [hsz73.out]; exact infoStr)) rfl ⟨s1, k1, by rw [← hdx, hN], by rw [← List.take_of_length_le (l := bl x) (i := d) (by rw [bl_len]; omega)]; exact hST, hBL⟩
    · have dx : y.toList.isEmpty = false := by
        rw [ByteArray.toList_eq]
        cases e : y.data.toList with
        | nil => exact absurd (ByteArray.ext (Array.ext' e)) h0
        | cons _ _ => rfl
      have hpos : Hid (0 < y.size) := by
        unfold Hid
        rcases Nat.eq_zero_or_pos y.size with e | e
        · exact absurd (ByteArray.ext (by apply Array.eq_empty_of_size_eq_zero; exact e)) h0
        · exact e
      have cn := str_n hB hk64.out
      obtain ⟨o, ho⟩ : ∃ o, N % 64 = o := ⟨_, rfl⟩
      have hoH := Lib.hid ho
      have hole : o < 64 := by omega
      have o1 : (N : Int) % 64 = (o : Int) := by omega
      have o2 : (0 : Int) ≤ (o : Int) := by omega
      have o3 : (o : Int) ≤ 64 := by omega
      have o4 : wrap64 (o : Int) = (o : Int) := by unfold wrap64; omega
      obtain ⟨kk, hkk⟩ : ∃ kk, Nat.min y.size (64 - o) = kk := ⟨_, rfl⟩
      have hNH := Lib.hid hN
      have hk1 : kk ≤ y.size := by rw [← hkk]; exact Nat.min_le_left _ _
      have hk2 : o + kk ≤ 64 := by
        have : kk ≤ 64 - o := by rw [← hkk]; exact Nat.min_le_right _ _
        omega
      have hk3 : 0 < kk := by
        have := hpos.out
        rw [← hkk]
        show 0 < min y.size (64 - o)
        omega
      have q1 : (0 : Int) ≤ (kk : Int) := by omega
      have q2 : (kk : Int) ≤ (y.size : Int) := by omega
      have hkx := Lib.hid (And.intro hk2 hk3)
      have hkk' := Lib.hid hkk
      have hole' := Lib.hid hole
      have hSH := Lib.hid hST
      have hRH := Lib.hid (And.intro hR hRs)
      have hBelH := Lib.hid hBel
      have hBH := Lib.hid hB
      have hNb : N + kk < 18446744073709551616 := by
        have h1 := hlenH.out
        have h2 := hy
        unfold Hid at h2
        have h3 := congrArg List.length h2
        rw [List.length_drop, bl_len, bl_len] at h3
        have h4 := hd
        unfold Hid at h4
        omega
      have q3 : IntKind.u64.wrap (kk : Int) = (kk : Int) := u64_is kk (by omega)
      have q4 : IntKind.u64.wrap ((N : Int) + (kk : Int)) = ((N + kk : Nat) : Int) := u64_is (N + kk) hNb
      have hd1 : Hid (d + kk ≤ x.size) := by
        have h2 := hy
        unfold Hid at h2
        have h3 := congrArg List.length h2
        rw [List.length_drop, bl_len, bl_len] at h3
        have h4 := hd
        unfold Hid at h4 ⊢
        omega
      have hy1 : Hid (bl (y.extract kk y.size) = (bl x).drop (d + kk)) := by
        have h2 := hy
        unfold Hid at h2 ⊢
        rw [bl_extract _ _ hk1, h2, List.drop_drop]
      have hyt : Hid ((bl y).take kk = (bl y).take (64 - o)) := by
        unfold Hid
        have e : kk = min (bl y).length (64 - o) := by rw [bl_len]; exact hkk.symm
        rw [e, take_min]
      have hms : Hid (textLen (Value.string (y.extract kk y.size)) < textLen (Value.string y)) := by
        unfold Hid textLen
        show (y.extract kk y.size).size < y.size
        rw [← bl_len, bl_extract _ _ hk1, List.length_drop, bl_len]
        omega
      by_cases hfull : o + kk = 64
      · have q5 : wrap64 ((o : Int) + (kk : Int)) = 64 := w64_sum o kk 64 hfull (by decide)
        have hfullH := Lib.hid hfull
        clear h0 hN ho hk1 hk2 hk3 hkk hole hST hR hRs hBel hB hNb hfull
        go_wp2_with (first | (refine wp_copy_str rfl _ _ rfl w.heap.size o y s1 k1 N kk rfl rfl hBH.out hk64.out hole'.out hkk'.out ?_; intro W2 hB2 hG2 hF2; have cn2 := str_n hB2 (cut_len k1 (bl y) hk64.out hkx.out.1 hkk'.out (bl_len y)); have fn2 := hB2.frozen 72; have hB2H := Lib.hid hB2; have hG2H := Lib.hid hG2; have hF2H := Lib.hid hF2; clear hB2 hG2 hF2 cn hBH) | fail)
        have hB3 := str_setn hB2H.out (cut_len k1 (bl y) hk64.out hkx.out.1 hkk'.out (bl_len y)) (N + kk)
        have hG3 := grown_tr hG2H.out (grown_set' W2 w.heap.size 72 (.int .u64 ((N + kk : Nat) : Int)))
        have hBel3 := (hF2H.out _ _ (Nat.le_refl _) hBelH.out).setCell (p := ⟨w.heap.size, 72, none⟩) (Nat.le_refl _) (.int .u64 ((N + kk : Nat) : Int))
        rw [Int.natCast_add] at hB3 hG3 hBel3
        generalize W2.setCell { block := w.heap.size, off := 72 } (Value.int IntKind.u64 (↑N + ↑kk)) = W3 at *
        have hlk2 := cut_len k1 (bl y) hk64.out hkx.out.1 hkk'.out (bl_len y)
        obtain ⟨k2, hk2⟩ : ∃ k2, k1.take o ++ (bl y).take kk ++ k1.drop (o + kk) = k2 := ⟨_, rfl⟩
        rw [hk2] at hB3 hlk2
        have v0 : W3.cell? ⟨w.heap.size, 0, none⟩ = some (u32v s1.a) := str_word hB3 0 (by decide)
        have v1 : W3.cell? ⟨w.heap.size, 1, none⟩ = some (u32v s1.b) := str_word hB3 1 (by decide)
        have v2 : W3.cell? ⟨w.heap.size, 2, none⟩ = some (u32v s1.c) := str_word hB3 2 (by decide)
        have v3 : W3.cell? ⟨w.heap.size, 3, none⟩ = some (u32v s1.d) := str_word hB3 3 (by decide)
        have v4 : W3.cell? ⟨w.heap.size, 4, none⟩ = some (u32v s1.e) := str_word hB3 4 (by decide)
        have v5 : W3.cell? ⟨w.heap.size, 5, none⟩ = some (u32v s1.f) := str_word hB3 5 (by decide)
        have v6 : W3.cell? ⟨w.heap.size, 6, none⟩ = some (u32v s1.g) := str_word hB3 6 (by decide)
        have v7 : W3.cell? ⟨w.heap.size, 7, none⟩ = some (u32v s1.h) := str_word hB3 7 (by decide)
        have HB3 := Lib.hid hB3
        have HBel3 := Lib.hid hBel3
        have HG3 := Lib.hid hG3
        have HL2 := Lib.hid hlk2
        have HK2 := Lib.hid hk2
        clear hB3 hBel3 hG3 hlk2 hk2 hB2H hG2H hF2H hBelH cn2 fn2
        have hnb := Lib.hid (World.new_ne W3 _ v0)
        obtain ⟨S, hS⟩ : ∃ S, scomp s1 k2 = S := ⟨_, rfl⟩
        have HC : Hid (Calls Tryd.prog 110 #[.agg #[u32v s1.a, u32v s1.b, u32v s1.c, u32v s1.d, u32v s1.e, u32v s1.f, u32v s1.g, u32v s1.h], .slice (some ⟨w.heap.size, 8, none⟩) 64 64] W3.drew fun e w' => e = .returned (.agg #[u32v S.a, u32v S.b, u32v S.c, u32v S.d, u32v S.e, u32v S.f, u32v S.g, u32v S.h]) ∧ Below W3.drew.heap.size W3.drew w') := by
          have h := comp_any W3.drew s1 w.heap.size 8 64 k2 HL2.out (by decide) (str_bytes HB3.out.drew) (KAt.below hKH.out HBel3.out.drew)
          rw [hS] at h
          exact h
        have HS := Lib.hid hS
        clear hS
        refine wp_region_last (S := (fun w' => w'.cell? ⟨w.heap.size, 0, none⟩ = some (u32v s1.a) ∧ w'.cell? ⟨w.heap.size, 1, none⟩ = some (u32v s1.b) ∧ w'.cell? ⟨w.heap.size, 2, none⟩ = some (u32v s1.c) ∧ w'.cell? ⟨w.heap.size, 3, none⟩ = some (u32v s1.d) ∧ w'.cell? ⟨w.heap.size, 4, none⟩ = some (u32v s1.e) ∧ w'.cell? ⟨w.heap.size, 5, none⟩ = some (u32v s1.f) ∧ w'.cell? ⟨w.heap.size, 6, none⟩ = some (u32v s1.g) ∧ w'.cell? ⟨w.heap.size, 7, none⟩ = some (u32v s1.h))) 6 (by kernel_rfl) ⟨v0, v1, v2, v3, v4, v5, v6, v7⟩ (fun hHeld => ?_)
        refine' wpAnyK_take (i := 0) (v := ?v0) rfl (by kernel_rfl) (by kernel_rfl) (by kernel_rfl) (by kernel_rfl) (by kernel_rfl) (fun _ _ _ h => h) (Or.inl ⟨by rfl, ?hy0⟩) hHeld ?rest0
        case hy0 => intro w hSw; (try dsimp only at hSw); go_simp; all_goals with_reducible rfl
        try simp only [sA, gA]
        refine' wpAnyK_take (i := 1) (v := ?v1) rfl (by kernel_rfl) (by kernel_rfl) (by kernel_rfl) (by kernel_rfl) (by kernel_rfl) (fun _ _ _ h => h) (Or.inl ⟨by rfl, ?hy1⟩) hHeld ?rest1
        case hy1 => intro w hSw; (try dsimp only at hSw); go_simp; all_goals with_reducible rfl
        try simp only [sA, gA]
        refine' wpAnyK_take (i := 2) (v := ?v2) rfl (by kernel_rfl) (by kernel_rfl) (by kernel_rfl) (by kernel_rfl) (by kernel_rfl) (fun _ _ _ h => h) (Or.inl ⟨by rfl, ?hy2⟩) hHeld ?rest2
        case hy2 => intro w hSw; (try dsimp only at hSw); go_simp; all_goals with_reducible rfl
        try simp only [sA, gA]
        refine' wpAnyK_take (i := 3) (v := ?v3) rfl (by kernel_rfl) (by kernel_rfl) (by kernel_rfl) (by kernel_rfl) (by kernel_rfl) (fun _ _ _ h => h) (Or.inl ⟨by rfl, ?hy3⟩) hHeld ?rest3
        case hy3 => intro w hSw; (try dsimp only at hSw); go_simp; all_goals with_reducible rfl
        try simp only [sA, gA]
        refine wpAnyK_ready (rs := [4]) (by kernel_rfl) (by simp) ?_
        refine AllReadyK.cons rfl (fun K hK => ?_) AllReadyK.nil
        go_simp
        go_at_call 110
        refine HC.out.mono ?_
        rintro e w4 ⟨rfl, hB4⟩
        have hb4 := HB3.out.drew.below hB4 HB3.out.lt
        have i0 := hb4.frozen 0
        have j0 : w4.cell? ⟨w.heap.size, 0, none⟩ = some (u32v s1.a) := str_word hb4 0 (by decide)
        have i1 := hb4.frozen 1
        have j1 : w4.cell? ⟨w.heap.size, 1, none⟩ = some (u32v s1.b) := str_word hb4 1 (by decide)
        have i2 := hb4.frozen 2
        have j2 : w4.cell? ⟨w.heap.size, 2, none⟩ = some (u32v s1.c) := str_word hb4 2 (by decide)
        have i3 := hb4.frozen 3
        have j3 : w4.cell? ⟨w.heap.size, 3, none⟩ = some (u32v s1.d) := str_word hb4 3 (by decide)
        have i4 := hb4.frozen 4
        have j4 : w4.cell? ⟨w.heap.size, 4, none⟩ = some (u32v s1.e) := str_word hb4 4 (by decide)
        have i5 := hb4.frozen 5
        have j5 : w4.cell? ⟨w.heap.size, 5, none⟩ = some (u32v s1.f) := str_word hb4 5 (by decide)
        have i6 := hb4.frozen 6
        have j6 : w4.cell? ⟨w.heap.size, 6, none⟩ = some (u32v s1.g) := str_word hb4 6 (by decide)
        have i7 := hb4.frozen 7
        have j7 : w4.cell? ⟨w.heap.size, 7, none⟩ = some (u32v s1.h) := str_word hb4 7 (by decide)
        have Hb4 := Lib.hid hb4
        have HB4 := Lib.hid (hB4)
        clear hb4 hB4
        go_wp2_with fail
        refine hK.out _ _ ?_ (fun hHeld2 => ?_)
        · exact ⟨j0, j1, j2, j3, j4, j5, j6, j7⟩
        clear hK K hHeld
        have hHeld := hHeld2
        clear hHeld2
        try simp only [sA, gA]
        refine' wpAnyK_take (i := 5) (v := ?v5) rfl (by kernel_rfl) (by kernel_rfl) (by kernel_rfl) (by kernel_rfl) (by kernel_rfl) (fun _ _ _ h => h) (Or.inl ⟨by rfl, ?hy5⟩) hHeld ?rest5
        case hy5 => intro w hSw; (try dsimp only at hSw); go_simp; all_goals with_reducible rfl
        try simp only [sA, gA]
        refine wpAnyK_ready (rs := [6]) (by kernel_rfl) (by simp) ?_
        refine AllReadyK.last rfl (fun K hK => ?_)
        go_simp
        refine hK.out _ _ ?_
        clear hK K
        try simp only [sA, gA]
        refine wpAnyK_done (by kernel_rfl) ?_ _
        clear hHeld
        have hb5 := str_sets Hb4.out HL2.out S
        have hg5 : W3.drew.grownBy (set8 w4 w.heap.size S) (some w.heap.size) := grown_tr (grownB HB4.out (Nat.le_refl _) (some w.heap.size)) (set8_grown w4 w.heap.size S)
        have hbel5 := set8_below (g := w.heap.size) S (Nat.le_refl _) (HBel3.out.drew.trans (HB4.out.mono HBel3.out.size))
        have hr5 := (hRH.out.1.grown HG3.out (by simp)).drew.grown hg5 (by simp)
        have hfin := add_full hSH.out hNH.out hoH.out rfl (by rw [bl_len]; exact hd1) hfullH.out
        rw [← hy, HK2.out, HS.out] at hfin
        have hA5 : Hid (AddAt w (set8 w4 w.heap.size S) m (bl x) (d + kk)) := by
          refine ⟨⟨S, k2, ?_, hfin⟩, ⟨_, hr5, hRH.out.2⟩, hbel5⟩
          rw [← Nat.add_assoc, hNH.out]
          exact hb5
        clear hb5 hg5 hbel5 hr5 hfin
        go_wp2_with fail
        exact ⟨⟨d + kk, _, rfl, hd1, hy1, hA5⟩, hms⟩
      · have q5 : wrap64 ((o : Int) + (kk : Int)) = ((o + kk : Nat) : Int) := w64_sum o kk (o + kk) rfl (Nat.lt_of_le_of_lt hkx.out.1 (by decide))
        have q6 : ((o : Int) + (kk : Int) == 64) = false := int_ne o kk hfull
        have hfullH := Lib.hid hfull
        clear h0 hN ho hk1 hk2 hk3 hkk hole hST hR hRs hBel hB hNb hfull
        go_wp2_with (first | (refine wp_copy_str rfl _ _ rfl w.heap.size o y s1 k1 N kk rfl rfl hBH.out hk64.out hole'.out hkk'.out ?_; intro W2 hB2 hG2 hF2; have cn2 := str_n hB2 (cut_len k1 (bl y) hk64.out hkx.out.1 hkk'.out (bl_len y)); have fn2 := hB2.frozen 72; have hB2H := Lib.hid hB2; have hG2H := Lib.hid hG2; have hF2H := Lib.hid hF2; clear hB2 hG2 hF2 cn hBH) | fail)
        have hB3 := str_setn hB2H.out (cut_len k1 (bl y) hk64.out hkx.out.1 hkk'.out (bl_len y)) (N + kk)
        have hG3 := grown_tr hG2H.out (grown_set' W2 w.heap.size 72 (.int .u64 ((N + kk : Nat) : Int)))
        have hBel3 := (hF2H.out _ _ (Nat.le_refl _) hBelH.out).setCell (p := ⟨w.heap.size, 72, none⟩) (Nat.le_refl _) (.int .u64 ((N + kk : Nat) : Int))
        have hr5 := hRH.out.1.grown hG3 (by simp)
        have hfin := add_part hSH.out hNH.out hoH.out rfl (by rw [bl_len]; exact hd1) hkx.out.1 hfullH.out
        rw [← hy] at hfin
        refine ⟨⟨d + kk, _, rfl, hd1, hy1, ⟨⟨s1, _, ?_, hfin⟩, ⟨_, hr5, hRH.out.2⟩, hBel3⟩⟩, hms⟩
        rw [← Nat.add_assoc, hNH.out]
        exact hB3
end Go.Proofs.YtbhagfdkipgggaaDoor
namespace Go.Proofs.YtbhagfdkipgggaaDoor
open Go.RowKit Go.Shelf
theorem infoU8f : (Tryd.prog.info? 5).map (fun i => (i.zero, i.size, i.bytes)) = some (some (.int .u8 0), 1, 1) := by kernel_rfl
/-- Bytes in a row of their own. -/
def BRow (w : World) (base : Nat) (v : Value) (l : List UInt8) : Prop := w.ownsRow base 5 1 v l.length (l.map byteV)
section
variable {w w' : World} {base : Nat} {v : Value} {l : List UInt8}
theorem brow_nil (w : World) (base : Nat) : BRow w base (.slice none 0 0) [] := World.ownsRow_nil w base _ 1
theorem BRow.slice (h : BRow w base v l) (hl : l ≠ []) : ∃ g c, v = .slice (some ⟨g, 0, none⟩) l.length c ∧ base ≤ g ∧ g < w.heap.size := by
  rcases h.2 with ⟨_, h0⟩ | ⟨g, cap, cur, hv, hb, hg, _⟩
  · exact absurd (List.eq_nil_of_length_eq_zero h0) hl
  · exact ⟨g, cap, hv, hb, (Array.getElem?_eq_some_iff.1 hg).1⟩
theorem BRow.any (h : BRow w base v l) : ∃ A c, v = .slice A l.length c := by
  rcases h.2 with ⟨hv, h0⟩ | ⟨g, cap, cur, hv, _⟩
  · exact ⟨none, 0, by rw [hv, h0]⟩
  · exact ⟨_, _, hv⟩
theorem BRow.more {base' : Nat} (h : BRow w base v l) (hle : base' ≤ base) : BRow w base' v l := by
  refine ⟨h.1, ?_⟩
  rcases h.2 with h2 | ⟨g, cap, cur, hv, hg, r⟩
  · exact .inl h2
  · exact .inr ⟨g, cap, cur, hv, Nat.le_trans hle hg, r⟩
theorem BRow.alloc (h : BRow w base v l) (o : Obj) : BRow (w.alloc o) base v l := World.ownsRow.alloc h o
theorem BRow.drewN (h : BRow w base v l) (n : Nat) : BRow (w.drewN n) base v l := h
theorem BRow.kept {row : Option Nat} (h : BRow w base v l) (hg : w.grownBy w' row) (hne : v.ownBlock = none ∨ v.ownBlock ≠ row) : BRow w' base v l := World.ownsRow.kept h hg hne
theorem BRow.below (h : BRow w base v l) (hB : Below w.heap.size w w') : BRow w' base v l :=
  h.kept (grownB hB (Nat.le_refl _) none) (by
    cases e : v.ownBlock with
    | none => exact .inl rfl
    | some k => exact .inr (by simp))
theorem BRow.cell {g n c : Nat} (h : BRow w base (.slice (some ⟨g, 0, none⟩) n c) l) (j : Nat) (x : UInt8) (hx : l[j]? = some x) : w.cell? ⟨g, j, none⟩ = some (byteV x) := by
  have := h.cells (g := g) rfl j (byteV x) (by rw [List.getElem?_map, hx]; rfl)
  rw [show (⟨g, j, none⟩ : Addr) = (⟨g, 0, none⟩ : Addr).add j by simp [Addr.add]]
  exact this
theorem BRow.bytesAt {g n c : Nat} (h : BRow w base (.slice (some ⟨g, 0, none⟩) n c) l) : BytesAt w g 0 l :=
  ⟨(h.lt g rfl).2, fun i x hx => by rw [Nat.zero_add]; exact h.cell i x hx⟩
/-- A literal's row. -/
theorem brow_lit (w : World) (l : List UInt8) (hb : base ≤ w.heap.size) (hm : l.length ≤ maxLen) : BRow (w.alloc (.cells (l.map byteV).toArray 5)) base (.slice (some ⟨w.heap.size, 0, none⟩) l.length l.length) l := by
  refine ⟨by simp, .inr ⟨w.heap.size, l.length, _, rfl, hb, heap_alloc_new w _, Nat.le_refl _, hm, by simp, ?_⟩⟩
  rw [Nat.mul_one, List.take_of_length_le (by simp)]
/-- Bytes as a text. -/
theorem conv_row (h : BRow w base v l) : (convert 65 9 v).run Tryd.prog w = .ok (.string ⟨l.toArray⟩) w := by
  rcases h.2 with ⟨hv, h0⟩ | ⟨g, cap, cur, hv, hb, hg, _⟩
  · have e := List.eq_nil_of_length_eq_zero h0
    subst e hv
    have hc := run_convert_bytes_string (P := Tryd.prog) w 65 9 5 none 0 0 Tryd.underlying65 Tryd.underlying5 Tryd.underlying9
    rw [hc]
    rfl
  · subst hv
    exact run_convert_bytes_back (P := Tryd.prog) w 65 9 5 ⟨g, 0, none⟩ cap l Tryd.underlying65 Tryd.underlying5 Tryd.underlying9 (fun j hj => by
      exact h.cells (g := g) rfl j (byteV l[j]) (by rw [List.getElem?_map, List.getElem?_eq_getElem hj]; rfl))
end
theorem wpList_append_run {P : Program} {w : World} {ops : Array Oper} {rest : List Oper} {o : Oper} {a : Act} {Q : Exit → Act → World → Prop} (hgd : o.guard = none) (d s : Operand) (dT sT : TypeId)
    (ho : o.op = .call { callee := .builtin .append, args := #[d, s], argTypes := #[dT, sT] }) (x y : Value) (hd : a.eval d = x) (hs : a.eval s = y) {v' : Value} {w' : World}
    (hrun : (Builtin.append_ #[dT, sT] o.type #[x, y]).run P w = .ok v' w') (h : wpList P ops Q rest (a.put o.dst v') w') : wpList P ops Q (o :: rest) a w := by
  refine wpList_plain hgd fun K hK => ?_
  unfold Oper.wp
  simp [execOp, ho, resolve, invoke, builtin, hd, hs, hrun, Result.andThen]
  exact hK _ _ h
/-- What an append leaves. -/
structure Pushed (w w' : World) (base : Nat) (v v' : Value) (l : List UInt8) : Prop where
  row : BRow w' base v' l
  grown : w.grownBy w' v.ownBlock
  bel : ∀ B w0, B ≤ base → base ≤ w.heap.size → Below B w0 w → Below B w0 w'
section
variable {w : World} {ops : Array Oper} {rest : List Oper} {o : Oper} {a : Act} {Q : Exit → Act → World → Prop}
theorem pushed_of {w' : World} {base : Nat} {v v' : Value} {l l' : List UInt8} (hrow : BRow w base v l) (h1 : BRow w' base v' l') (hg : w.grownBy w' v.ownBlock) : Pushed w w' base v v' l' :=
  ⟨h1, hg, fun _ _ hB hb h => h.grown hg (Nat.le_trans hB hb) (fun k e => Nat.le_trans hB (hrow.lt k e).1)⟩
/-- append of other bytes. -/
theorem wp_cat (hgd : o.guard = none) (d s : Operand) (ho : o.op = .call { callee := .builtin .append, args := #[d, s], argTypes := #[65, 65] }) (base : Nat) (v : Value) (l : List UInt8) (hd : a.eval d = v) (hrow : BRow w base v l)
    (g off c : Nat) (m : List UInt8) (hs : a.eval s = .slice (some ⟨g, off, none⟩) m.length c) (hm : BytesAt w g off m) (hlen : l.length + m.length < 100000000000) (hb : base ≤ w.heap.size)
    (h : ∀ v' w', Pushed w w' base v v' (l ++ m) → wpList Tryd.prog ops Q rest (a.put o.dst v') w') : wpList Tryd.prog ops Q (o :: rest) a w := by
  obtain ⟨i0, hi, hz0, hz1, hz2⟩ := info_parts infoU8f
  refine wpList_append_own w hgd d s 65 ho base 5 i0 (.int .u8 0) 1 1 Tryd.underlying65 hi hz0 hz1 hz2 rfl (by decide) v l.length (l.map byteV) hd hrow ⟨g, off, none⟩ m.length c (m.map byteV) hs (by simp) ?_ (byteV_one _) (by unfold maxLen; omega) (by omega) hb ?_
  · intro j u hj
    rw [List.getElem?_map, Option.map_eq_some_iff] at hj
    obtain ⟨x, hx, rfl⟩ := hj
    rw [show (⟨g, off, none⟩ : Addr).add j = ⟨g, off + j, none⟩ by simp [Addr.add]]
    exact hm.2 j x hx
  · intro v' w' h1 h2 _
    refine h v' w' (pushed_of hrow ?_ h2)
    unfold BRow
    rw [List.length_append, List.map_append]
    exact h1
/-- append of one byte, whose row has just been made. -/
theorem wp_push {w0 : World} (hgd : o.guard = none) (d s : Operand) (ho : o.op = .call { callee := .builtin .append, args := #[d, s], argTypes := #[65, 65] }) (base : Nat) (v : Value) (l : List UInt8) (hd : a.eval d = v) (hrow : BRow w0 base v l)
    (c : Nat) (x : UInt8) {val : Value} (hval : val = byteV x) (hs : a.eval s = .slice (some ⟨w0.heap.size, 0, none⟩) 1 c) (hlen : l.length < 99999999999) (hb : base ≤ w0.heap.size)
    (h : ∀ v' w', Pushed w0 w' base v v' (l ++ [x]) → wpList Tryd.prog ops Q rest (a.put o.dst v') w') : wpList Tryd.prog ops Q (o :: rest) a (w0.alloc (.cells #[val] 5)) := by
  subst hval
  refine wp_cat hgd d s ho base v l hd (hrow.alloc _) w0.heap.size 0 c [x] hs (brow_lit (base := w0.heap.size) w0 [x] (Nat.le_refl _) (by simp [maxLen])).bytesAt ?_ ?_ ?_
  · rw [show [x].length = 1 from rfl]; omega
  · rw [World.size_alloc]; omega
  · intro v' w' hP
    refine h v' w' ⟨hP.row, ?_, fun B w1 hB hb2 hBel => hP.bel B w1 hB (by rw [World.size_alloc]; omega) (hBel.alloc (Nat.le_trans hB hb2) _)⟩
    exact grown_tr (grownB ((Below.refl _ w0).alloc (Nat.le_refl _) _) (Nat.le_refl _) v.ownBlock) hP.grown
/-- append of some bytes, whose row has just been made. -/
theorem wp_lit {w0 : World} (hgd : o.guard = none) (d s : Operand) (ho : o.op = .call { callee := .builtin .append, args := #[d, s], argTypes := #[65, 65] }) (base : Nat) (v : Value) (l : List UInt8) (hd : a.eval d = v) (hrow : BRow w0 base v l)
    (n c : Nat) (xs : List UInt8) {vals : Array Value} (hval : vals = (xs.map byteV).toArray) (hn : xs.length = n) (hs : a.eval s = .slice (some ⟨w0.heap.size, 0, none⟩) n c) (hlen : l.length + n < 99999999999) (hb : base ≤ w0.heap.size)
    (h : ∀ v' w', Pushed w0 w' base v v' (l ++ xs) → wpList Tryd.prog ops Q rest (a.put o.dst v') w') : wpList Tryd.prog ops Q (o :: rest) a (w0.alloc (.cells vals 5)) := by
  subst hval hn
  refine wp_cat hgd d s ho base v l hd (hrow.alloc _) w0.heap.size 0 c xs hs (brow_lit (base := w0.heap.size) w0 xs (Nat.le_refl _) (by unfold maxLen; omega)).bytesAt ?_ ?_ ?_
  · omega
  · rw [World.size_alloc]; omega
  · intro v' w' hP
    refine h v' w' ⟨hP.row, ?_, fun B w1 hB hb2 hBel => hP.bel B w1 hB (by rw [World.size_alloc]; omega) (hBel.alloc (Nat.le_trans hB hb2) _)⟩
    exact grown_tr (grownB ((Below.refl _ w0).alloc (Nat.le_refl _) _) (Nat.le_refl _) v.ownBlock) hP.grown
/-- append of a text. -/
theorem wp_cat_text (hgd : o.guard = none) (d s : Operand) (ho : o.op = .call { callee := .builtin .append, args := #[d, s], argTypes := #[65, 9] }) (base : Nat) (v : Value) (l : List UInt8) (hd : a.eval d = v) (hrow : BRow w base v l)
    (x : ByteArray) (hs : a.eval s = .string x) (hlen : l.length + x.size < 100000000000) (hb : base ≤ w.heap.size)
    (h : ∀ v' w', Pushed w w' base v v' (l ++ bl x) → wpList Tryd.prog ops Q rest (a.put o.dst v') w') : wpList Tryd.prog ops Q (o :: rest) a w := by
  obtain ⟨i0, hi, hz0, hz1, hz2⟩ := info_parts infoU8f
  obtain ⟨v', w', hr, h1, h2, _⟩ := Lib.run_append_own_string (P := Tryd.prog) w base 65 9 o.type 5 i0 Tryd.underlying65 Tryd.underlying9 hi hz0 hz1 hz2 v _ _ hrow x (by unfold maxLen; omega) (by omega) hb
  refine wpList_append_run hgd d s _ _ ho _ _ hd hs hr (h v' w' (pushed_of hrow ?_ h2))
  unfold BRow
  rw [List.length_append, List.map_append, bl_len]
  exact h1
end
/-- An array of bytes: the first i are those of L, the others zero. -/
def OutAt (w : World) (g : Nat) (t : TypeId) (L : List UInt8) (n i : Nat) : Prop := Blk w g t ((L.take i ++ List.replicate (n - i) 0).map byteV).toArray
theorem outAt_size {L : List UInt8} {n i : Nat} (hL : L.length = n) (hi : i ≤ n) : ((L.take i ++ List.replicate (n - i) 0).map byteV).toArray.size = n := by
  rw [List.size_toArray, List.length_map, List.length_append, List.length_take, List.length_replicate]
  omega
theorem OutAt.set_ {w : World} {g : Nat} {t : TypeId} {L : List UInt8} {n i : Nat} (h : OutAt w g t L n i) (hL : L.length = n) (hi : i < n) (x : UInt8) (hx : L[i]? = some x) : OutAt (w.setCell ⟨g, i, none⟩ (byteV x)) g t L n (i + 1) := by
  have h1 := Blk.set_ h i (byteV x)
  have e : ((L.take i ++ List.replicate (n - i) 0).map byteV).toArray.setIfInBounds i (byteV x) = ((L.take (i + 1) ++ List.replicate (n - (i + 1)) 0).map byteV).toArray := by
    have hl : ((L.take i).map byteV).length = i := by rw [List.length_map, List.length_take]; omega
    rw [List.setIfInBounds_toArray, List.map_append, List.set_append_right _ _ (Nat.le_of_eq hl), hl, Nat.sub_self, show n - i = (n - (i + 1)) + 1 by omega, List.replicate_succ, List.map_cons, List.set_cons_zero, List.take_add_one, hx, List.map_append, List.map_append, List.append_assoc]
    rfl
  rw [e] at h1
  exact h1
theorem OutAt.done {w : World} {g : Nat} {t : TypeId} {L : List UInt8} {n : Nat} (h : OutAt w g t L n n) (hL : L.length = n) : Blk w g t (L.map byteV).toArray := by
  unfold OutAt at h
  rw [List.take_of_length_le (Nat.le_of_eq hL), Nat.sub_self, List.replicate_zero, List.append_nil] at h
  exact h
theorem OutAt.lt {w : World} {g : Nat} {t : TypeId} {L : List UInt8} {n i : Nat} (h : OutAt w g t L n i) : g < w.heap.size := Blk.lt h
/-- A text as bytes of a new block. -/
theorem conv_text (w : World) (x : ByteArray) : ∃ c w', (convert 9 65 (.string x)).run Tryd.prog w = .ok (.slice (some ⟨w.heap.size, 0, none⟩) x.size c) w' ∧ BytesAt w' w.heap.size 0 (bl x) ∧ Below w.heap.size w w' ∧ w'.heap.size = w.heap.size + 1 := by
  refine ⟨_, _, Lib.run_convert_string_bytes (P := Tryd.prog) w 9 65 5 x Tryd.underlying9 Tryd.underlying65 Tryd.underlying5, ⟨by rw [Lib.bytesWorld_size]; omega, fun i y hy => ?_⟩, Lib.bytesWorld_below _ _ _, Lib.bytesWorld_size _ _ _⟩
  have hi : i < x.size := by
    rw [← bl_len]
    exact (List.getElem?_eq_some_iff.1 hy).1
  rw [Nat.zero_add, Lib.bytesWorld_cell w 5 x i hi, List.getD_eq_getElem?_getD]
  unfold bl at hy
  rw [hy]
  rfl
end Go.Proofs.YtbhagfdkipgggaaDoor
namespace Go.Proofs.YtbhagfdkipgggaaDoor
/-- The number of zeros behind the byte 128. -/
def zerosOf (n : Nat) : Nat := (119 - n % 64) % 64
theorem zerosOf_ends (n : Nat) : (n + 1 + zerosOf n) % 64 = 56 := by unfold zerosOf; omega
theorem zerosOf_first (n k : Nat) (h : k < zerosOf n) : (n + 1 + k) % 64 ≠ 56 := by unfold zerosOf at h; omega
/-- A number's eight bytes, the highest first. -/
def be64 (n : Nat) : List UInt8 := (List.range 8).map fun i => UInt8.ofNat (n / 2 ^ (56 - 8 * i))
theorem be64_len (n : Nat) : (be64 n).length = 8 := by unfold be64; rw [List.length_map, List.length_range]
theorem be64_snoc (n i : Nat) (h : i < 8) : (be64 n).take (i + 1) = (be64 n).take i ++ [UInt8.ofNat (n / 2 ^ (56 - 8 * i))] := by
  rw [List.take_add_one]
  unfold be64
  rw [List.getElem?_map, List.getElem?_range h]
  rfl
theorem byte_of (n : Nat) : ((n : Int) % 256) = ((UInt8.ofNat n).toNat : Int) := by
  rw [UInt8.toNat_ofNat']
  omega
def padL (n : Nat) : List UInt8 := 128 :: (List.replicate (zerosOf n) 0 ++ be64 (8 * n % 18446744073709551616))
theorem padL_len (n : Nat) : (padL n).length = zerosOf n + 9 := by
  unfold padL
  rw [List.length_cons, List.length_append, List.length_replicate, be64_len]
theorem padded_len (b : List UInt8) : (b ++ padL b.length).length % 64 = 0 := by
  have h := zerosOf_ends b.length
  rw [List.length_append, padL_len]
  omega
/-- The words after a whole message. -/
def sumS (b : List UInt8) : S8 := sblocks iv ((b ++ padL b.length).length / 64) (b ++ padL b.length)
/-- The digest's bytes. -/
def digest (s : S8) : List UInt8 := (List.range 32).map fun i => UInt8.ofNat ((s.get (i / 4)).toNat / 2 ^ (24 - 8 * (i % 4)))
theorem digest_len (s : S8) : (digest s).length = 32 := by unfold digest; rw [List.length_map, List.length_range]
def sumL (b : List UInt8) : List UInt8 := digest (sumS b)
theorem sum_of_stream {b : List UInt8} {s : S8} {k : List UInt8} (h : StrOf iv (b ++ padL b.length) s k) : s = sumS b := h.st
end Go.Proofs.YtbhagfdkipgggaaDoor
namespace Go.Proofs.YtbhagfdkipgggaaDoor
open Go.RowKit Go.Shelf
attribute [local go_sem] Oper.semAt_some
def z32 : Array Value := Array.replicate 32 (.int .u8 0)
/-- The padding so far. -/
def padTo (k : Nat) : List UInt8 := 128 :: List.replicate k 0
theorem padTo_len (k : Nat) : (padTo k).length = k + 1 := by unfold padTo; rw [List.length_cons, List.length_replicate]
theorem padTo_succ (k : Nat) : padTo (k + 1) = padTo k ++ [0] := by unfold padTo; rw [List.replicate_succ', List.cons_append]
theorem blk_new2 (w : World) (o : Obj) (t : TypeId) (cs : Array Value) : Blk ((w.alloc o).alloc (.cells cs t)) (w.heap.size + 1) t cs := by
  have bk := Blk.new (w.alloc o) t cs
  rw [World.size_alloc] at bk
  exact bk
def rowLen : Value → Nat
  | .slice _ n _ => n
  | _ => 0
theorem pad_slice {w : World} {base : Nat} {v : Value} {j : Nat} (h : BRow w base v (padTo j)) : ∃ A c, v = .slice A (j + 1) c := by
  obtain ⟨A, c, e⟩ := h.any
  rw [padTo_len] at e
  exact ⟨A, c, e⟩
theorem pad_slice2 {w : World} {base : Nat} {v : Value} {p : List UInt8} {q n i : Nat} (h : BRow w base v (p ++ (be64 q).take (i + 1))) (hn : (p ++ (be64 q).take i).length = n + i) (hi : i < 8) : ∃ A c, v = .slice A (n + (i + 1)) c := by
  obtain ⟨A, c, e⟩ := h.any
  rw [List.length_append, List.length_take, be64_len] at e hn
  exact ⟨A, c, by rw [e]; congr 1; omega⟩
theorem infoA32b : (Tryd.prog.info? 102).map (·.size) = some 32 := by kernel_rfl
theorem infoA32b1 : ∃ a, Tryd.prog.info? 102 = some a ∧ a.size = 32 := Option.map_eq_some_iff.1 infoA32b
theorem digest_at (s : S8) (t : Nat) (h : t < 32) : (digest s)[t]? = some (UInt8.ofNat ((s.get (t / 4)).toNat / 2 ^ (24 - 8 * (t % 4)))) := by
  unfold digest
  rw [List.getElem?_map, List.getElem?_range h]
  rfl
theorem byte_val (n k : Nat) : Value.int IntKind.u8 ((n : Int) / 2 ^ k % 256) = byteV (UInt8.ofNat (n / 2 ^ k)) := by
  unfold byteV
  rw [← byte_of (n / 2 ^ k), Int.natCast_ediv, Int.natCast_pow]
  rfl
structure SumAt0 (w0 wr : World) (g : Nat) (s : S8) (k : List UInt8) (N : Nat) : Prop where
  st : Blk wr g 129 (strL s k N).toArray
  res : ∃ cs, Blk wr (g + 1) 102 cs ∧ cs.size = 32
  bel : Below w0.heap.size w0 wr
set_option maxRecDepth 100000 in
set_option maxHeartbeats 1600000 in
theorem stsum_any (w : World) (m : List UInt8) (s : S8) (k : List UInt8) (hS : StrOf iv m s k) (hK : KAt w 1) (hlen : m.length < 100000000000) :
    Calls Tryd.prog 99 #[.agg (strL s k m.length).toArray] w fun e w' => e = .returned (.agg ((sumL m).map byteV).toArray) ∧ Below w.heap.size w w' := by
  obtain ⟨N, hN⟩ : ∃ N, m.length = N := ⟨_, rfl⟩
  rw [hN] at hlen ⊢
  have q0 : IntKind.u64.wrap (8 * (N : Int)) = ((8 * N : Nat) : Int) := u64_is (8 * N) (by omega)
  go_enter Tryd.func99, Tryd.ntmps99
  go_upto_region 1 with fail
  refine world_is (P := fun W => Code.wp _ _ _ _ W) (fun W2 hW2 => ?_)
  have hA : Hid (SumAt0 w W2 w.heap.size s k N) := by
    have b1 := (Below.refl _ w).alloc (Nat.le_refl _) (Obj.cells (strL s k N).toArray 129)
    have hres : ∃ cs, Blk W2 (w.heap.size + 1) 102 cs ∧ cs.size = 32 := by rw [← hW2]; exact ⟨z32, blk_new2 _ _ _ _, rfl⟩
    refine ⟨?_, hres, ?_⟩
    · rw [← hW2]; exact (Blk.new w _ _).alloc _
    · rw [← hW2]; exact b1.alloc b1.size _
  have hsz : W2.heap.size = w.heap.size + 2 := by rw [← hW2]; simp
  clear hW2
  have cn := str_n hA.out.st (n := N) hS.len
  have hrow := brow_lit (base := W2.heap.size) W2 [128] (Nat.le_refl _) (by decide)
  go_wp2_with fail
  have hlenH := Lib.hid hlen
  have hSH := Lib.hid hS
  have hKH := Lib.hid hK
  have hNH := Lib.hid hN
  have hszH := Lib.hid hsz
  rw [hsz] at hrow
  have hR0 : Hid (BRow (W2.alloc (Obj.cells #[Value.int IntKind.u8 128] 5)) (w.heap.size + 2) (.slice (some ⟨w.heap.size + 2, 0, none⟩) (0 + 1) 1) (padTo 0)) := hrow
  have hB0 : Hid (Below (w.heap.size + 2) W2 (W2.alloc (Obj.cells #[Value.int IntKind.u8 128] 5))) := (Below.refl _ W2).alloc (Nat.le_of_eq hsz.symm) _
  clear hlen hS hK hN hrow
  go_loopw [4] (fun v wr => ∃ j A c, v = .slice A (j + 1) c ∧ Hid (j ≤ zerosOf N) ∧ Hid (BRow wr (w.heap.size + 2) v (padTo j)) ∧ Hid (Below (w.heap.size + 2) W2 wr)) (fun v _ => 70 - rowLen v)
  case atStart => exact ⟨0, _, _, rfl, Nat.zero_le _, hR0, hB0⟩
  case round =>
    clear hR0 hB0
    obtain ⟨j, A, c, rfl, hj, hR, hB⟩ := hrel
    have cn1 : wr.cell? ⟨w.heap.size, 72, none⟩ = some (.int .u64 (N : Int)) := by rw [hB.out.cell (p := ⟨w.heap.size, 72, none⟩) (by show w.heap.size < w.heap.size + 2; omega)]; exact cn
    have q1 : wrap64 (N : Int) = (N : Int) := w64_is N (by have := hlenH.out; omega)
    obtain ⟨T, hT⟩ : ∃ T, N + (j + 1) = T := ⟨_, rfl⟩
    have hz : j ≤ 63 := Nat.le_trans hj (by unfold zerosOf; omega)
    have q2 : wrap64 ((N : Int) + ((j : Int) + 1)) = (T : Int) := w64_sum N (j + 1) T hT (by have := hlenH.out; omega)
    obtain ⟨r, hr⟩ : ∃ r, T % 64 = r := ⟨_, rfl⟩
    have q3 : (T : Int) % 64 = (r : Int) := by omega
    by_cases hlt : j < zerosOf N
    · have q4 : ¬ r = 56 := by
        have := zerosOf_first N j hlt
        omega
      have q5 : ((r : Int) == 56) = false := by rw [beq_eq_false_iff_ne]; omega
      have hltH := Lib.hid hlt
      have hsz2 := Lib.hid (Nat.le_trans (Nat.le_of_eq hszH.out.symm) hB.out.size)
      clear hT hr hlt cn
      have hln : (padTo j).length < 99999999999 := by rw [padTo_len]; omega
      go_wp2_with (at_builtin; refine wp_push rfl _ _ rfl (w.heap.size + 2) _ (padTo j) rfl hR.out 1 0 rfl rfl hln hsz2.out ?_; intro v' w' hP; rw [← padTo_succ] at hP; obtain ⟨A2, c2, rfl⟩ := pad_slice hP.row)
      have hB2 := hP.bel _ _ (Nat.le_refl _) hsz2.out hB.out
      refine ⟨⟨j + 1, A2, c2, rfl, hltH.out, hP.row, hB2⟩, ?_⟩
      show 70 - (j + 1 + 1) < 70 - (j + 1)
      omega
    · have q4 : r = 56 := by
        have := zerosOf_ends N
        have h2 : j = zerosOf N := Nat.le_antisymm hj (Nat.le_of_not_lt hlt)
        rw [h2] at hT
        omega
      have q5 : ((r : Int) == 56) = true := by rw [q4]; rfl
      have hjz : Hid (j = zerosOf N) := Nat.le_antisymm hj (Nat.le_of_not_lt hlt)
      clear hT hr cn hlt
      go_wp2_with fail
      have hR1 : Hid (BRow wr (w.heap.size + 2) (Value.slice A (j + 1) c) (padTo (zerosOf N) ++ (be64 (8 * N)).take 0)) := by
        have h := hR.out
        rw [hjz.out] at h ⊢
        unfold Hid
        rw [List.take_zero, List.append_nil]
        exact h
      have hB1 := hB
      clear hR hB q1 q2 q3 q4 q5 cn1 hj hz
      go_loopw [4, 23] (fun p q wr => ∃ i A c, p = .slice A (j + 1 + i) c ∧ q = .int .i64 i ∧ Hid (i ≤ 8) ∧ Hid (BRow wr (w.heap.size + 2) p (padTo (zerosOf N) ++ (be64 (8 * N)).take i)) ∧ Hid (Below (w.heap.size + 2) W2 wr)) (fun _ q _ => 8 - (intOf q).toNat)
      case atStart => exact ⟨0, A, c, rfl, rfl, Nat.zero_le _, hR1, hB1⟩
      case round =>
        clear hR1 hB1
        obtain ⟨i, A, c, rfl, rfl, hi, hR, hB⟩ := hrel
        by_cases hlt : i < 8
        · have d1 : decide (i < 8) = true := decide_eq_true hlt
          have d2 : decide ((i : Int) < 8) = true := decide_eq_true (by omega)
          have hv := byte_of (8 * N / 2 ^ (56 - 8 * i))
          have hv2 : Value.int IntKind.u8 (8 * (N : Int) / 2 ^ (56 - 8 * i) % 256) = byteV (UInt8.ofNat (8 * N / 2 ^ (56 - 8 * i))) := by
            unfold byteV
            rw [← hv, Int.natCast_ediv, Int.natCast_mul, Int.natCast_pow]
            rfl
          have hsn := be64_snoc (8 * N) i hlt
          obtain ⟨bx, hbx⟩ : ∃ bx, UInt8.ofNat (8 * N / 2 ^ (56 - 8 * i)) = bx := ⟨_, rfl⟩
          rw [hbx] at hv2 hsn
          have hv2H := Lib.hid hv2
          have hsnH := Lib.hid hsn
          clear hv hv2 hsn hbx
          have hltH := Lib.hid hlt
          have hsz2 := Lib.hid (Nat.le_trans (Nat.le_of_eq hszH.out.symm) hB.out.size)
          have hln : (padTo (zerosOf N) ++ (be64 (8 * N)).take i).length = j + 1 + i := by rw [List.length_append, padTo_len, List.length_take, be64_len, hjz.out]; omega
          have hln2 : Hid ((padTo (zerosOf N) ++ (be64 (8 * N)).take i).length < 99999999999) := by unfold Hid; rw [hln]; have := hjz.out; unfold zerosOf at this; omega
          have hln3 := Lib.hid hln
          clear hln
          go_wp2_with (at_builtin; refine wp_push rfl _ _ rfl (w.heap.size + 2) _ (padTo (zerosOf N) ++ (be64 (8 * N)).take i) rfl hR.out 1 bx hv2H.out rfl hln2.out hsz2.out ?_; intro v' w' hP; rw [List.append_assoc, ← hsnH.out] at hP; obtain ⟨A2, c2, rfl⟩ := pad_slice2 hP.row hln3.out hltH.out)
          have hB2 := hP.bel _ _ (Nat.le_refl _) hsz2.out hB.out
          have hr2 := hP.row
          refine ⟨⟨i + 1, A2, c2, rfl, by go_num, hltH.out, hr2, hB2⟩, ?_⟩
          have := hltH.out
          simp [intOf]
          omega
        · have d1 : decide (i < 8) = false := decide_eq_false hlt
          have d2 : decide ((i : Int) < 8) = false := decide_eq_false (by omega)
          have hrow : BRow wr (w.heap.size + 2) (.slice A (j + 1 + i) c) (padL N) := by
            have h := hR.out
            have h8 : i = 8 := Nat.le_antisymm hi (Nat.le_of_not_lt hlt)
            have e : (be64 (8 * N)).take i = be64 (8 * N) := List.take_of_length_le (by rw [be64_len, h8]; exact Nat.le_refl _)
            rw [e] at h
            unfold padL
            rw [Nat.mod_eq_of_lt (by have := hlenH.out; omega)]
            exact h
          have hcv := conv_row hrow
          obtain ⟨P, hP⟩ : ∃ P : ByteArray, (⟨(padL N).toArray⟩ : ByteArray) = P := ⟨_, rfl⟩
          have hPb : bl P = padL N := by rw [← hP]; unfold bl; rfl
          have hPs : P.size = zerosOf N + 9 := by rw [← bl_len, hPb, padL_len]
          rw [hP] at hcv
          have hst := hA.out.st.below hB.out (by omega)
          have hBw : Below w.heap.size w wr := hA.out.bel.trans (hB.out.mono (by omega))
          have HADD := add_any wr m s k P hSH.out (KAt.below hKH.out hBw) (by rw [hNH.out, hPs]; have := hlenH.out; unfold zerosOf; omega)
          rw [hNH.out, hPb] at HADD
          have HADDH := Lib.hid HADD
          have hrg := range_of_blk hst
          have hi1 : Hid ((Tryd.prog.info? 129).map (·.size) = some (strL s k N).length) := by unfold Hid; rw [strL_len, hSH.out.len]; exact infoStr
          have hstH := Lib.hid hst
          have hBwH := Lib.hid hBw
          clear hlt hrow hP HADD hst hBw hPs
          go_upto_region 11 with (first | (refine wpList_load_mid rfl 129 _ rfl w.heap.size 0 rfl (strL s k N) _ hrg Tryd.underlying129 rfl hi1.out ?_) | (go_at_call 98; refine HADDH.out.mono ?_; rintro e w3 ⟨s2, k2, rfl, hS2, hB3⟩) | (refine wpList_store_mid rfl 129 _ _ rfl w.heap.size 0 (strL s2 k2 (N + P.size)).toArray rfl rfl ?hAA ?hBB ?hCC ?_) | fail)
          case hAA => rw [str_size _ _ _ hS2.len]; exact there_of_blk (o := 0) (n := 73) (hstH.out.below hB3 hstH.out.lt) (by rw [str_size _ _ _ hSH.out.len]; exact Nat.le_refl _)
          case hBB => rw [str_size _ _ _ hS2.len]; exact infoStr
          case hCC => exact all_oneCell_toArray (strL_one _ _ _)
          have hres := hA.out.res
          have hst4 := blk_setWhole (hstH.out.below hB3 hstH.out.lt) (strL s2 k2 (N + P.size)) (by rw [strL_len, hS2.len, str_size _ _ _ hSH.out.len])
          have hg4 : wr.grownBy (w3.setCells w.heap.size 0 (strL s2 k2 (N + P.size))) (some w.heap.size) := grown_tr (grownB hB3 (Nat.le_refl _) _) (setCells_grown w.heap.size _ 0 w3)
          have hB4 := below_setCells (g := w.heap.size) (Nat.le_refl _) (strL s2 k2 (N + P.size)) 0 _ (hBwH.out.trans (hB3.mono hBwH.out.size))
          have hres4 : ∃ cs, Blk (w3.setCells w.heap.size 0 (strL s2 k2 (N + P.size))) (w.heap.size + 1) 102 cs ∧ cs.size = 32 := by
            obtain ⟨cs, h1, h2⟩ := hA.out.res
            exact ⟨cs, (h1.below hB.out (by omega)).grown hg4 (by simp), h2⟩
          have hs2 : Hid (s2 = sumS m) := sum_of_stream (by rw [hNH.out]; exact hS2)
          have hk2 := hS2.len
          generalize w3.setCells w.heap.size 0 (strL s2 k2 (N + P.size)) = W4 at *
          try simp only [Act.put]
          clear hg4 hres hrg hcv hB3
          go_upto_region 12 with fail
          refine world_is (P := fun W => Code.wp _ _ _ _ W) (fun W5 hW5 => ?_)
          have hlt4 := hst4.lt
          obtain ⟨rs, hr4, hr4s⟩ := hres4
          have hO5 : Hid (OutAt W5 W4.heap.size 102 (digest s2) 32 0) := by unfold Hid; rw [← hW5]; exact Blk.new W4 _ _
          have hst5 : Hid (Blk W5 w.heap.size 129 (strL s2 k2 (N + P.size)).toArray) := by unfold Hid; rw [← hW5]; exact hst4.alloc _
          have hr5 : Hid (Blk W5 (w.heap.size + 1) 102 rs) := by unfold Hid; rw [← hW5]; exact hr4.alloc _
          have hr5s := Lib.hid hr4s
          have hB5 : Hid (Below w.heap.size w W5) := by unfold Hid; rw [← hW5]; exact hB4.alloc hB4.size _
          have hltr := Lib.hid hr4.lt
          have hlts := Lib.hid hlt4
          have hdl := Lib.hid (digest_len s2)
          obtain ⟨ob, hob⟩ : ∃ ob, W4.heap.size = ob := ⟨_, rfl⟩
          unfold Hid at hltr hlts
          rw [hob] at hO5 hltr hlts ⊢
          have hne1 : w.heap.size ≠ ob := Nat.ne_of_lt hlts
          have hne2 := Lib.hid (Nat.ne_of_lt hltr)
          have hge := Lib.hid (Nat.le_of_lt hlts)
          clear hW5 hst4 hr4 hB4 hlt4 hob hltr hlts hr4s
          go_wp2_with fail
          go_loopw [40] (fun q wr => ∃ t : Nat, q = .int .i64 t ∧ Hid (t ≤ 32) ∧ Hid (OutAt wr ob 102 (digest s2) 32 t) ∧ Hid (Blk wr w.heap.size 129 (strL s2 k2 (N + P.size)).toArray) ∧ Hid (Blk wr (w.heap.size + 1) 102 rs) ∧ Hid (Below w.heap.size w wr)) (fun q _ => 32 - (intOf q).toNat)
          case atStart => exact ⟨0, rfl, Nat.zero_le _, hO5, hst5, hr5, hB5⟩
          case round =>
            clear hO5 hst5 hr5 hB5
            obtain ⟨t, rfl, ht, hO, hst, hr, hB⟩ := hrel
            by_cases hlt : t < 32
            · have d1 : decide (t < 32) = true := decide_eq_true hlt
              have d2 : decide ((t : Int) < 32) = true := decide_eq_true (by omega)
              obtain ⟨a, ha⟩ : ∃ a, t / 4 = a := ⟨_, rfl⟩
              obtain ⟨b, hb⟩ : ∃ b, t % 4 = b := ⟨_, rfl⟩
              have z1 : (t : Int) / 4 = (a : Int) := by omega
              have z2 : (t : Int) % 4 = (b : Int) := by omega
              have z3 : a < 8 := by omega
              have z4 : b < 4 := by omega
              have z5 : (a : Int) < 8 := by omega
              have z6 : (b : Int) < 4 := by omega
              have cw := str_word hst.out a z3
              have hfz := Blk.frozen hO.out t
              obtain ⟨oc, hoc⟩ : ∃ oc, wr.cell? ⟨ob, t, none⟩ = some oc := by
                have := Blk.cell hO.out t
                rw [this]
                exact ⟨_, Array.getElem?_eq_getElem (by rw [outAt_size hdl.out ht]; exact hlt)⟩
              have hx := digest_at s2 t hlt
              rw [ha, hb] at hx
              have hv := byte_val (s2.get a).toNat (24 - 8 * b)
              have hxH := Lib.hid hx
              have hvH := Lib.hid hv
              have hltH := Lib.hid hlt
              clear hx hv ha hb
              go_wp2_with fail
              refine ⟨⟨t + 1, by go_num, hltH.out, ?_, ?_, ?_, ?_⟩, ?_⟩
              · unfold Hid
                rw [hvH.out]
                exact OutAt.set_ hO.out hdl.out hltH.out _ hxH.out
              · exact Blk.grown hst.out (grown_set' _ _ _ _) (by simpa using hne1)
              · exact Blk.grown hr.out (grown_set' _ _ _ _) (by simpa using hne2.out)
              · exact Below.setCell (p := ⟨ob, t, none⟩) hB.out hge.out _
              · have := hltH.out
                simp [intOf]
                omega
            · have d1 : decide (t < 32) = false := decide_eq_false hlt
              have d2 : decide ((t : Int) < 32) = false := decide_eq_false (by omega)
              have e32 : t = 32 := Nat.le_antisymm ht (Nat.le_of_not_lt hlt)
              have hO2 : Hid (Blk wr ob 102 ((digest s2).map byteV).toArray) := by
                have h := hO.out
                rw [e32] at h
                exact OutAt.done h hdl.out
              have hlD : Hid (((digest s2).map byteV).length = 32) := by unfold Hid; rw [List.length_map]; exact hdl.out
              have hoD : Hid (∀ v ∈ (digest s2).map byteV, v.oneCell' = true) := byteV_one _
              have hfin : Hid ((sumL m).map byteV = (digest s2).map byteV) := by unfold Hid sumL; rw [hs2.out]
              generalize (digest s2).map byteV = D at *
              have hrgO := range_of_blk hO2.out
              clear hO e32 hlt ht hst
              go_wp2_with (first | (refine wpList_load_mid rfl 102 _ rfl ob 0 rfl D _ hrgO Tryd.underlying102 rfl ?hI1 ?_) | (refine wpList_store_mid rfl 102 _ _ rfl (w.heap.size + 1) 0 D.toArray rfl rfl ?hI2 ?hI3 ?hI4 ?_) | fail)
              case hI1 => rw [hlD.out]; exact infoA32b1
              case hI2 => rw [hlD.out]; exact there_of_blk (o := 0) hr.out (by rw [hr5s.out]; exact Nat.le_refl _)
              case hI3 => rw [hlD.out]; exact infoA32b1
              case hI4 => exact hoD.out
              have hL := blk_setWhole hr.out D (by rw [hlD.out, hr5s.out])
              have hBL := below_setCells (g := w.heap.size + 1) (Nat.le_succ _) D 0 _ hB.out
              rw [hfin.out]
              exact bodyPost_ret (results_c (P := Tryd.prog) rfl _ _ (w.heap.size + 1) 102 D.toArray _ rfl hL Tryd.underlying102 rfl (by rw [List.size_toArray, hlD.out]; exact infoA32b)) rfl ⟨rfl, hBL⟩
end Go.Proofs.YtbhagfdkipgggaaDoor
namespace Go.Proofs.YtbhagfdkipgggaaDoor
open Go.RowKit Go.Shelf
attribute [local go_sem] Oper.semAt_some
theorem conv_bytes {w : World} {g o c : Nat} {l : List UInt8} (h : BytesAt w g o l) : (convert 65 9 (.slice (some ⟨g, o, none⟩) l.length c)).run Tryd.prog w = .ok (.string ⟨l.toArray⟩) w :=
  run_convert_bytes_back (P := Tryd.prog) w 65 9 5 ⟨g, o, none⟩ c l Tryd.underlying65 Tryd.underlying5 Tryd.underlying9 (fun j hj => by
    have := h.2 j l[j] (List.getElem?_eq_getElem hj)
    rw [show (⟨g, o, none⟩ : Addr).add j = ⟨g, o + j, none⟩ from Addr.add_mid g o j]
    exact this)
theorem bytesAt_set {w : World} {g o : Nat} {l : List UInt8} (h : BytesAt w g o l) {ob : Nat} (hne : g ≠ ob) (vs : List Value) : BytesAt (w.setCells ob 0 vs) g o l := by
  have hg := setCells_grown ob vs 0 w
  refine ⟨Nat.lt_of_lt_of_le h.1 hg.size, fun i x hx => ?_⟩
  exact hg.cell (h.2 i x hx) (fun e => hne (by cases e; rfl))
set_option maxRecDepth 100000 in
set_option maxHeartbeats 1600000 in
theorem sum_any (w : World) (bb bo c L : Nat) (b : List UInt8) (hL : b.length = L) (hb : BytesAt w bb bo b) (hK : KAt w 1) (hlen : L < 100000000000) :
    Calls Tryd.prog 95 #[.slice (some ⟨bb, bo, none⟩) L c] w fun e w' => e = .returned (.agg ((sumL b).map byteV).toArray) ∧ Below w.heap.size w w' := by
  go_enter Tryd.func95, Tryd.ntmps95
  go_upto_region 1 with fail
  refine world_is (P := fun W => Code.wp _ _ _ _ W) (fun W1 hW1 => ?_)
  have HB1 : Hid (Below w.heap.size w W1) := by unfold Hid; rw [← hW1]; exact (Below.refl _ w).alloc (Nat.le_refl _) _
  have HR : Hid (Blk W1 w.heap.size 102 z32) := by unfold Hid; rw [← hW1]; exact Blk.new w _ _
  clear hW1
  obtain ⟨X, hX⟩ : ∃ X : ByteArray, (⟨b.toArray⟩ : ByteArray) = X := ⟨_, rfl⟩
  have hXb : bl X = b := by rw [← hX]; unfold bl; rfl
  have hXs : X.size = L := by rw [← bl_len, hXb, hL]
  have hb1 := hb.below HB1.out
  have hne : bb ≠ w.heap.size := Nat.ne_of_lt hb.1
  have CV : Hid (∀ wx, Below W1.heap.size W1 wx → (convert 65 9 (.slice (some ⟨bb, bo, none⟩) L c)).run Tryd.prog wx = .ok (.string X) wx) := fun wx hB => by
    rw [← hL, ← hX]
    exact conv_bytes (hb1.below hB)
  have CV2 : Hid (∀ wx, Below W1.heap.size W1 wx → (convert 65 9 (.slice (some ⟨bb, bo, none⟩) L c)).run Tryd.prog (wx.setCells w.heap.size 0 ((sumL b).map byteV).toArray.toList) = .ok (.string X) (wx.setCells w.heap.size 0 ((sumL b).map byteV).toArray.toList)) := fun wx hB => by
    rw [← hL, ← hX]
    exact conv_bytes (bytesAt_set (hb1.below hB) hne _)
  have HADD : Hid (∀ wx, Below W1.heap.size W1 wx → Calls Tryd.prog 98 #[.agg (strL iv (List.replicate 64 0) 0).toArray, .string X] wx fun e w' => ∃ s2 k2, e = .returned (.agg (strL s2 k2 L).toArray) ∧ StrOf iv b s2 k2 ∧ Below wx.heap.size wx w') := fun wx hB => by
    have h := add_any wx [] iv (List.replicate 64 0) X (strOf_start iv _ (List.length_replicate ..)) ((KAt.below hK HB1.out).below hB) (by rw [hXs]; simp; omega)
    rw [hXs, hXb, List.nil_append, List.length_nil, Nat.zero_add] at h
    exact h
  have HSUM : Hid (∀ wx s2 k2, Below W1.heap.size W1 wx → StrOf iv b s2 k2 → Calls Tryd.prog 99 #[.agg (strL s2 k2 L).toArray] wx fun e w' => e = .returned (.agg ((sumL b).map byteV).toArray) ∧ Below wx.heap.size wx w') := fun wx s2 k2 hB hS => by
    have h := stsum_any wx b s2 k2 hS ((KAt.below hK HB1.out).below hB) (by rw [hL]; exact hlen)
    rw [hL] at h
    exact h
  have HLD : Hid (((sumL b).map byteV).length = 32) := by unfold Hid sumL; rw [List.length_map, digest_len]
  clear hX hXb hXs hb1 hb hK hne
  refine wp_region_held_drew (S := (fun w' => (convert 65 9 (.slice (some ⟨bb, bo, none⟩) L c)).run Tryd.prog w' = .ok (.string X) w')) (by kernel_rfl) (CV.out _ (Below.refl _ W1).drew) (fun hHeld => ?_)
  refine' wpAnyH_take (i := 1) (v := ?v1) rfl (by kernel_rfl) (by kernel_rfl) (by kernel_rfl) (fun _ _ _ h => h) (Or.inl ⟨by rfl, ?hy1⟩) hHeld ?rest1
  case hy1 =>
    intro w hSw
    try dsimp only at hSw
    go_simp
    all_goals with_reducible rfl
  try simp only [Act.put, List.getElem_toArray, List.getElem_cons_zero, List.getElem_cons_succ]
  refine' wpAnyH_take (i := 2) (v := ?v2) rfl (by kernel_rfl) (by kernel_rfl) (by kernel_rfl) (fun _ _ _ h => h) (Or.inl ⟨by rfl, ?hy2⟩) hHeld ?rest2
  case hy2 =>
    intro w hSw
    try dsimp only at hSw
    go_simp
    all_goals with_reducible rfl
  try simp only [Act.put, List.getElem_toArray, List.getElem_cons_zero, List.getElem_cons_succ]
  refine wpAnyH_ready (rs := [0]) (by kernel_rfl) (by simp) ?_
  refine AllReadyH.cons rfl (fun K hK => ?_) AllReadyH.nil
  go_simp
  go_at_call 97
  refine (begin_any _).mono ?_
  rintro e w2 ⟨rfl, hB2⟩
  have HB2 := Lib.hid ((Below.refl _ W1).drew.trans hB2)
  clear hB2
  go_wp2_with fail
  refine hK.out _ _ ?_ (fun hHeld2 => ?_)
  · exact CV.out _ HB2.out
  clear hK K hHeld
  have hHeld := hHeld2
  clear hHeld2
  try simp only [Act.put, List.getElem_toArray, List.getElem_cons_zero, List.getElem_cons_succ]
  refine wpAnyH_ready (rs := [3]) (by kernel_rfl) (by simp) ?_
  refine AllReadyH.cons rfl (fun K hK => ?_) AllReadyH.nil
  go_simp
  go_at_call 98
  refine (HADD.out _ (HB2.out)).mono ?_
  rintro e w3 ⟨s2, k2, rfl, hS2, hB3⟩
  have HB3 := Lib.hid (HB2.out.trans (hB3.mono HB2.out.size))
  have HS2 := Lib.hid hS2
  clear hB3 hS2
  go_wp2_with fail
  refine hK.out _ _ ?_ (fun hHeld2 => ?_)
  · exact CV.out _ HB3.out
  clear hK K hHeld
  have hHeld := hHeld2
  clear hHeld2
  try simp only [Act.put, List.getElem_toArray, List.getElem_cons_zero, List.getElem_cons_succ]
  refine wpAnyH_ready (rs := [4]) (by kernel_rfl) (by simp) ?_
  refine AllReadyH.cons rfl (fun K hK => ?_) AllReadyH.nil
  go_simp
  go_at_call 99
  refine (HSUM.out _ s2 k2 HB3.out HS2.out).mono ?_
  rintro e w4 ⟨rfl, hB4⟩
  have HB4 := Lib.hid (HB3.out.trans (hB4.mono HB3.out.size))
  clear hB4
  go_wp2_with fail
  refine hK.out _ _ ?_ (fun hHeld2 => ?_)
  · exact CV.out _ HB4.out
  clear hK K hHeld
  have hHeld := hHeld2
  clear hHeld2
  try simp only [Act.put, List.getElem_toArray, List.getElem_cons_zero, List.getElem_cons_succ]
  refine wpAnyH_ready (rs := [5]) (by kernel_rfl) (by simp) ?_
  refine AllReadyH.cons rfl (fun K hK => ?_) AllReadyH.nil
  refine wp_store_mid 102 _ _ rfl w.heap.size 0 ((sumL b).map byteV).toArray rfl rfl ?ht1 ?ht2 ?ht3 ?ht4
  case ht1 => exact there_of_blk (o := 0) (HR.out.below HB4.out HR.out.lt) (by rw [List.size_toArray, HLD.out]; exact Nat.le_refl _)
  case ht2 => rw [List.size_toArray, HLD.out]; exact infoA32b
  case ht3 => exact all_oneCell_toArray (byteV_one _)
  case ht4 =>
  refine hK.out _ _ ?_ (fun hHeld2 => ?_)
  · exact CV2.out _ HB4.out
  clear hK K hHeld
  have hHeld := hHeld2
  clear hHeld2
  try simp only [Act.put, List.getElem_toArray, List.getElem_cons_zero, List.getElem_cons_succ]
  refine wpAnyH_done (by kernel_rfl) ?_ _
  clear hHeld
  have hL2 := blk_setWhole (HR.out.below HB4.out HR.out.lt) ((sumL b).map byteV) (by rw [HLD.out]; rfl)
  have hBL := below_setCells (g := w.heap.size) (Nat.le_refl _) ((sumL b).map byteV) 0 _ (HB1.out.trans (HB4.out.mono HB1.out.size))
  go_wp2_with fail
  exact bodyPost_ret (results_c (P := Tryd.prog) rfl _ _ w.heap.size 102 ((sumL b).map byteV).toArray _ rfl hL2 Tryd.underlying102 rfl (by rw [List.size_toArray, HLD.out]; exact infoA32b)) rfl ⟨rfl, hBL⟩
end Go.Proofs.YtbhagfdkipgggaaDoor
