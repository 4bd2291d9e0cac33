/-
  Layer 46 (script): the example that every law plays first.
-/
import Derived.Test.YtldkfhimpkiigaaGreatDoorScrS1
import Derived.Test.YtldkfhimpkiigaaGreatDoorScrW14
namespace Go.Proofs.YtldkfhimpkiigaaGreatDoor
open Go.RowKit ScrP
attribute [local go_sem] Oper.semAt_some

theorem results_c1 {P : Program} {fn : Func} {p : Tmp} {ty : TypeId} (h : fn.results = #[.cell p ty]) (tmps : Array Value) (w : World) (g : Nat) (t : TypeId) (cs : Array Value) (d : TypeDesc)
    (hp : tmps.getD p undef = .pointer (some ⟨g, 0, none⟩)) (hg : Blk w g t cs)
    (hu : P.underlying ty = some d) (hd : (match d with | .struct _ | .array _ _ => true | _ => false) = true) (hi : (P.info? ty).map (·.size) = some cs.size) :
    (results fn tmps).run P w = .ok (.agg cs) w := by
  have hp' : tmps[p]?.getD undef = .pointer (some ⟨g, 0, none⟩) := by simpa using hp
  unfold Blk at hg
  simp [results, h, hp', asAddr, run_loadVar_row w g t ty cs (0, 0) d hg hu hd hi]
theorem rowAt_blk {w : World} {b : Nat} {t : TypeId} {cs : List Value} (h : Blk w b t cs.toArray) (n c : Nat) : RowAt w w.heap.size (.slice (some ⟨b, 0, none⟩) n c) n cs :=
  ⟨some ⟨b, 0, none⟩, c, rfl, fun _ => ⟨b, 0, rfl, h.lt, fun j x hx => by rw [Nat.zero_add, h.cell j]; simpa using hx⟩⟩
/-- The world in which the example lies. -/
def exWorld (W1 : World) (q : Nat) : World := (((((W1.alloc (.cells #[.string ⟨#[112, 111, 108, 105, 99, 121, 32, 112, 10, 10, 116, 121, 112, 101, 32, 97]⟩] 9)).alloc (.cells #[.int .i64 5] 3)).alloc (.cells #[.int .i64 0, .int .i64 0, .int .i64 4, .int .i64 1, .int .i64 0, .int .i64 0, .int .i64 0, .int .i64 0] 3)).alloc (.cells #[.int .i64 0, .int .i64 0, .int .i64 8, .int .i64 1, .int .i64 0, .int .i64 0, .int .i64 0, .int .i64 0] 3)).alloc (.cells #[.int .i64 10, .slice (some ⟨q + 1, 0, none⟩) 1 1, .string ⟨#[]⟩, .int .i64 4, .slice (some ⟨q + 1 + 1, 0, none⟩) 8 8, .string ⟨#[61, 97, 98]⟩, .int .i64 21, .slice (some ⟨q + 1 + 1 + 1, 0, none⟩) 8 8, .string ⟨#[64, 51]⟩] 53))
theorem exWorld_bel (W1 : World) (q : Nat) : Below W1.heap.size W1 (exWorld W1 q) := by
  unfold exWorld
  exact (((((Below.refl _ _).alloc (Nat.le_refl _) _).alloc (by rw [World.size_alloc]; omega) _).alloc (by rw [World.size_alloc, World.size_alloc]; omega) _).alloc (by rw [World.size_alloc, World.size_alloc, World.size_alloc]; omega) _).alloc (by rw [World.size_alloc, World.size_alloc, World.size_alloc, World.size_alloc]; omega) _
/-- The example's five rows. -/
structure ExRows (W : World) (q : Nat) : Prop where
  r1 : Blk W q 9 [Value.string exT].toArray
  r2 : Blk W (q + 1) 3 (intsC [5]).toArray
  r3 : Blk W (q + 1 + 1) 3 (intsC [0, 0, 4, 1, 0, 0, 0, 0]).toArray
  r4 : Blk W (q + 1 + 1 + 1) 3 (intsC [0, 0, 8, 1, 0, 0, 0, 0]).toArray
  r5 : Blk W (q + 1 + 1 + 1 + 1) 53 (stepsC exS.steps [.slice (some ⟨q + 1, 0, none⟩) 1 1, .slice (some ⟨q + 1 + 1, 0, none⟩) 8 8, .slice (some ⟨q + 1 + 1 + 1, 0, none⟩) 8 8]).toArray
theorem ExRows.other {W : World} {q g : Nat} (h : ExRows W q) (hg : g < q) (i : Nat) (u : Value) : ExRows (W.setCell ⟨g, i, none⟩ u) q :=
  ⟨h.r1.other (a := ⟨g, i, none⟩) (by show q ≠ g; omega) u, h.r2.other (a := ⟨g, i, none⟩) (by show q + 1 ≠ g; omega) u, h.r3.other (a := ⟨g, i, none⟩) (by show q + 1 + 1 ≠ g; omega) u, h.r4.other (a := ⟨g, i, none⟩) (by show q + 1 + 1 + 1 ≠ g; omega) u, h.r5.other (a := ⟨g, i, none⟩) (by show q + 1 + 1 + 1 + 1 ≠ g; omega) u⟩
theorem ExRows.at_ {W : World} {q : Nat} (h : ExRows W q) : ScrAt W W.heap.size (.agg #[.slice (some ⟨q, 0, none⟩) 1 1, .slice (some ⟨q + 1 + 1 + 1 + 1, 0, none⟩) 3 3]) exS := by
  refine ⟨_, _, rfl, rowAt_blk h.r1 1 1, [.slice (some ⟨q + 1, 0, none⟩) 1 1, .slice (some ⟨q + 1 + 1, 0, none⟩) 8 8, .slice (some ⟨q + 1 + 1 + 1, 0, none⟩) 8 8], rfl, rowAt_blk h.r5 3 3, fun i x u hx hu => ?_⟩
  match i, hx, hu with
  | 0, hx, hu => cases hx; cases hu; exact rowAt_blk h.r2 1 1
  | 1, hx, hu => cases hx; cases hu; exact rowAt_blk h.r3 8 8
  | 2, hx, hu => cases hx; cases hu; exact rowAt_blk h.r4 8 8
  | i + 3, hx, _ => cases hx
theorem exWorld_rows (W1 : World) {q : Nat} (hq : W1.heap.size = q) : ExRows (exWorld W1 q) q := by
  have R1 : Blk (exWorld W1 q) q 9 [Value.string exT].toArray := by
    rw [← hq]
    exact ((((Blk.new W1 9 _).alloc _).alloc _).alloc _).alloc _
  have R2 : Blk (exWorld W1 q) (q + 1) 3 (intsC [5]).toArray := by
    have h := Blk.new (W1.alloc (.cells #[.string ⟨#[112, 111, 108, 105, 99, 121, 32, 112, 10, 10, 116, 121, 112, 101, 32, 97]⟩] 9)) 3 #[.int .i64 5]
    rw [World.size_alloc, hq] at h
    exact ((h.alloc _).alloc _).alloc _
  have R3 : Blk (exWorld W1 q) (q + 1 + 1) 3 (intsC [0, 0, 4, 1, 0, 0, 0, 0]).toArray := by
    have h := Blk.new ((W1.alloc (.cells #[.string ⟨#[112, 111, 108, 105, 99, 121, 32, 112, 10, 10, 116, 121, 112, 101, 32, 97]⟩] 9)).alloc (.cells #[.int .i64 5] 3)) 3 #[.int .i64 0, .int .i64 0, .int .i64 4, .int .i64 1, .int .i64 0, .int .i64 0, .int .i64 0, .int .i64 0]
    rw [World.size_alloc, World.size_alloc, hq] at h
    exact (h.alloc _).alloc _
  have R4 : Blk (exWorld W1 q) (q + 1 + 1 + 1) 3 (intsC [0, 0, 8, 1, 0, 0, 0, 0]).toArray := by
    have h := Blk.new (((W1.alloc (.cells #[.string ⟨#[112, 111, 108, 105, 99, 121, 32, 112, 10, 10, 116, 121, 112, 101, 32, 97]⟩] 9)).alloc (.cells #[.int .i64 5] 3)).alloc (.cells #[.int .i64 0, .int .i64 0, .int .i64 4, .int .i64 1, .int .i64 0, .int .i64 0, .int .i64 0, .int .i64 0] 3)) 3 #[.int .i64 0, .int .i64 0, .int .i64 8, .int .i64 1, .int .i64 0, .int .i64 0, .int .i64 0, .int .i64 0]
    rw [World.size_alloc, World.size_alloc, World.size_alloc, hq] at h
    exact h.alloc _
  have R5 : Blk (exWorld W1 q) (q + 1 + 1 + 1 + 1) 53 (stepsC exS.steps [.slice (some ⟨q + 1, 0, none⟩) 1 1, .slice (some ⟨q + 1 + 1, 0, none⟩) 8 8, .slice (some ⟨q + 1 + 1 + 1, 0, none⟩) 8 8]).toArray := by
    have h := Blk.new ((((W1.alloc (.cells #[.string ⟨#[112, 111, 108, 105, 99, 121, 32, 112, 10, 10, 116, 121, 112, 101, 32, 97]⟩] 9)).alloc (.cells #[.int .i64 5] 3)).alloc (.cells #[.int .i64 0, .int .i64 0, .int .i64 4, .int .i64 1, .int .i64 0, .int .i64 0, .int .i64 0, .int .i64 0] 3)).alloc (.cells #[.int .i64 0, .int .i64 0, .int .i64 8, .int .i64 1, .int .i64 0, .int .i64 0, .int .i64 0, .int .i64 0] 3)) 53 #[.int .i64 10, .slice (some ⟨q + 1, 0, none⟩) 1 1, .string ⟨#[]⟩, .int .i64 4, .slice (some ⟨q + 1 + 1, 0, none⟩) 8 8, .string ⟨#[61, 97, 98]⟩, .int .i64 21, .slice (some ⟨q + 1 + 1 + 1, 0, none⟩) 8 8, .string ⟨#[64, 51]⟩]
    rw [World.size_alloc, World.size_alloc, World.size_alloc, World.size_alloc, hq] at h
    exact h
  exact ⟨R1, R2, R3, R4, R5⟩
set_option maxRecDepth 100000 in
set_option maxHeartbeats 12800000 in
theorem example_any (w : World) : Calls Tryz.prog 30 #[] w fun e w' => ∃ vt vs, e = .returned (.agg #[vt, vs]) ∧ ScrAt w' w'.heap.size (.agg #[vt, vs]) exS ∧ Below w.heap.size w w' := by
  go_enter Tryz.func30, Tryz.ntmps30
  go_upto_region 1 with fail
  refine world_is (P := fun W => Code.wp _ _ _ _ W) (fun W1 hW1 => ?_)
  have B1 : Hid (Below w.heap.size w W1) := by unfold Hid; rw [← hW1]; exact (Below.refl _ _).alloc (Nat.le_refl _) _
  have X1 : Hid (Blk W1 w.heap.size 25 #[.slice none 0 0, .slice none 0 0]) := by unfold Hid; rw [← hW1]; exact Blk.new _ _ _
  obtain ⟨g, hg⟩ : ∃ g, w.heap.size = g := ⟨_, rfl⟩
  have hgl : Hid (g < W1.heap.size) := by unfold Hid; rw [← hg]; exact X1.out.lt
  have hgw : Hid (w.heap.size ≤ g) := Nat.le_of_eq hg
  rw [hg] at X1 ⊢
  clear hW1 hg
  obtain ⟨q, hq⟩ : ∃ q, W1.heap.size = q := ⟨_, rfl⟩
  have HE := Lib.hid (exWorld_rows W1 hq)
  have hgq : Hid (g < q) := by unfold Hid; rw [← hq]; exact hgl.out
  have HB := Lib.hid (exWorld_bel W1 q)
  have X2 := Lib.hid (X1.out.below HB.out X1.out.lt)
  have x0 := X2.out.cell 0
  have x1 := X2.out.cell 1
  have f0 := X2.out.frozen 0
  have f1 := X2.out.frozen 1
  have hqH := Lib.hid hq
  unfold exWorld at x0 x1 f0 f1
  go_wp2_with fail
  refine bodyPost_ret (results_c1 (P := Tryz.prog) rfl _ _ g 25 #[.slice (some ⟨q, 0, none⟩) 1 1, .slice (some ⟨q + 1 + 1 + 1 + 1, 0, none⟩) 3 3] _ rfl ((X2.out.set_ 0 _).set_ 1 _) Tryz.underlying25 rfl (by kernel_rfl)) rfl ?_
  exact ⟨_, _, rfl, ((HE.out.other hgq.out 0 _).other hgq.out 1 _).at_, ((B1.out.trans (HB.out.mono B1.out.size)).setCell (p := ⟨g, 0, none⟩) hgw.out _).setCell (p := ⟨g, 1, none⟩) hgw.out _⟩
end Go.Proofs.YtldkfhimpkiigaaGreatDoor
