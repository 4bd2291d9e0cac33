/-
  Layer 46 (script), the specification: Data.
-/
import Derived.Test.YtldkfhimpkiigaaGreatDoorR46W4
namespace Go.Proofs.YtldkfhimpkiigaaGreatDoor
open Go.RowKit ScrP
attribute [local go_sem] Oper.semAt_some

set_option maxRecDepth 100000 in
set_option maxHeartbeats 4000000 in
theorem rData_any (t : ByteArray) (w : World) (hs : t.size ≤ 140737488355328) : Calls Tryz.prog 14 #[.string t] w fun e w' => e = .returned (.tuple #[.string (dataR t).text, .int .i64 (dataR t).num, .int .i64 (dataR t).err]) ∧ w' = w := by
  cases hl : t.data.toList with
  | nil =>
    have hR : Hid (dataR t = ⟨⟨#[]⟩, -1, 0⟩) := by unfold Hid dataR; rw [hl]
    have e1 : (t.toList == []) = true := by rw [ByteArray.toList_eq, hl]; rfl
    clear hl
    go_enter Tryz.func14, Tryz.ntmps14
    go_wp2_with fail
    go_ret3
    exact ⟨by rw [hR.out]; rfl, rfl⟩
  | cons c r =>
    obtain ⟨hx, hsz⟩ := ext_tail hl
    have hd := dataR_cons hl
    have e1 : (t.toList == []) = false := by rw [ByteArray.toList_eq, hl]; rfl
    have i0 : ∀ wx, (Instr.index 9 (.string t) (.int .i64 0)).run Tryz.prog wx = .ok (.int .u8 (c.toNat : Int)) wx := str_index (k := 0) (by rw [hl]; rfl)
    have s0 : ∀ wx, (Instr.slice 9 (.string t) (some (.int .i64 1)) none none).run Tryz.prog wx = .ok (.string ⟨r.toArray⟩) wx := fun wx => by
      have := str_from t 1 (by omega) wx
      rw [hx] at this
      exact this
    obtain ⟨u, hu⟩ : ∃ u : ByteArray, (⟨r.toArray⟩ : ByteArray) = u := ⟨_, rfl⟩
    have hur : u.data.toList = r := by rw [← hu]
    have huz : u.size ≤ 140737488355328 := by
      have h1 : u.data.toList.length = u.size := Array.length_toList
      rw [hur] at h1
      omega
    rw [hu] at s0
    by_cases hc : c = 61 ∧ t.size ≤ 4001
    · have hR : Hid (dataR t = ⟨u, -1, 0⟩) := by unfold Hid; rw [hd, if_pos hc, hu]
      have f1 : ((c.toNat : Int) == 61) = true := by rw [hc.1]; rfl
      have f2 : decide ((t.size : Int) ≤ 4001) = true := decide_eq_true (by omega)
      clear hc hd hl hx hsz hu
      go_enter Tryz.func14, Tryz.ntmps14
      go_wp2_with fail
      go_ret3
      exact ⟨by rw [hR.out]; rfl, rfl⟩
    · have HD := rdecimal_any u w huz
      rw [hur] at HD
      have hd2 : dataR t = if c = 64 ∧ decOk r = true ∧ decVal r ≤ 65535 then ⟨⟨#[]⟩, decVal r, 0⟩ else ⟨⟨#[]⟩, -1, 1⟩ := by rw [hd, if_neg hc]
      obtain ⟨ok, hok⟩ : ∃ b, decOk r = b := ⟨_, rfl⟩
      have hN : decN r = if ok = true then decVal r else 0 := by unfold decN; rw [hok]
      obtain ⟨n, hn⟩ : ∃ n, decN r = n := ⟨_, rfl⟩
      rw [hok] at hd2 HD
      rw [hn] at HD hN
      have HDH := Lib.hid HD
      have hd2H := Lib.hid hd2
      have hNH := Lib.hid hN
      have hT : Hid (((c.toNat : Int) == 61) = false ∨ decide ((t.size : Int) ≤ 4001) = false) := by
        by_cases h : c = 61
        · exact .inr (decide_eq_false (by
            intro h2
            exact hc ⟨h, by omega⟩))
        · left
          rw [beq_eq_false_iff_ne]
          intro e
          exact h (UInt8.toNat_inj.1 (by rw [show (61 : UInt8).toNat = 61 from rfl]; omega))
      have hc64 : Hid (((c.toNat : Int) == 64) = decide (c = 64)) := by
        unfold Hid
        rw [Bool.eq_iff_iff, beq_iff_eq, decide_eq_true_iff]
        exact ⟨fun e => UInt8.toNat_inj.1 (by rw [show (64 : UInt8).toNat = 64 from rfl]; omega), fun e => by rw [e]; rfl⟩
      clear hd hl hx hsz hu hc hok hN hn HD hd2
      by_cases h64 : c = 64
      · have g1 : ((c.toNat : Int) == 64) = true := by rw [hc64.out, decide_eq_true h64]
        have g0 : ((c.toNat : Int) == 61) = false := by rw [h64]; rfl
        cases ok
        · have hR : Hid (dataR t = ⟨⟨#[]⟩, -1, 1⟩) := by unfold Hid; rw [hd2H.out, if_neg (fun h => Bool.false_ne_true h.2.1)]
          clear h64
          go_enter Tryz.func14, Tryz.ntmps14
          go_wp2_with fail
          refine HDH.out.mono ?_
          rintro e w1 ⟨rfl, rfl⟩
          go_wp2_with fail
          go_ret3
          exact ⟨by rw [hR.out]; rfl, rfl⟩
        · have hnv : n = decVal r := by rw [hNH.out, if_pos rfl]
          by_cases hle : n ≤ 65535
          · have hR : Hid (dataR t = ⟨⟨#[]⟩, (n : Int), 0⟩) := by unfold Hid; rw [hd2H.out, if_pos ⟨h64, rfl, by omega⟩, hnv]
            have g2 : decide ((n : Int) ≤ 65535) = true := decide_eq_true (by omega)
            clear h64 hnv
            go_enter Tryz.func14, Tryz.ntmps14
            go_wp2_with fail
            refine HDH.out.mono ?_
            rintro e w1 ⟨rfl, rfl⟩
            go_wp2_with fail
            go_ret3
            exact ⟨by rw [hR.out]; rfl, rfl⟩
          · have hR : Hid (dataR t = ⟨⟨#[]⟩, -1, 1⟩) := by unfold Hid; rw [hd2H.out, if_neg (fun h => hle (by rw [hnv]; exact h.2.2))]
            have g2 : decide ((n : Int) ≤ 65535) = false := decide_eq_false (by omega)
            clear h64 hnv
            go_enter Tryz.func14, Tryz.ntmps14
            go_wp2_with fail
            refine HDH.out.mono ?_
            rintro e w1 ⟨rfl, rfl⟩
            go_wp2_with fail
            go_ret3
            exact ⟨by rw [hR.out]; rfl, rfl⟩
      · have g1 : ((c.toNat : Int) == 64) = false := by rw [hc64.out, decide_eq_false h64]
        have hR : Hid (dataR t = ⟨⟨#[]⟩, -1, 1⟩) := by unfold Hid; rw [hd2H.out, if_neg (fun h => h64 h.1)]
        clear h64
        rcases hT.out with g0 | g0
        · go_enter Tryz.func14, Tryz.ntmps14
          go_wp2_with fail
          refine HDH.out.mono ?_
          rintro e w1 ⟨rfl, rfl⟩
          go_wp2_with fail
          go_ret3
          exact ⟨by rw [hR.out]; rfl, rfl⟩
        · by_cases h61 : c = 61
          · have g3 : ((c.toNat : Int) == 61) = true := by rw [h61]; rfl
            clear h61
            go_enter Tryz.func14, Tryz.ntmps14
            go_wp2_with fail
            refine HDH.out.mono ?_
            rintro e w1 ⟨rfl, rfl⟩
            go_wp2_with fail
            go_ret3
            exact ⟨by rw [hR.out]; rfl, rfl⟩
          · have g3 : ((c.toNat : Int) == 61) = false := by
              rw [beq_eq_false_iff_ne]
              intro e
              exact h61 (UInt8.toNat_inj.1 (by rw [show (61 : UInt8).toNat = 61 from rfl]; omega))
            clear h61
            go_enter Tryz.func14, Tryz.ntmps14
            go_wp2_with fail
            refine HDH.out.mono ?_
            rintro e w1 ⟨rfl, rfl⟩
            go_wp2_with fail
            go_ret3
            exact ⟨by rw [hR.out]; rfl, rfl⟩
end Go.Proofs.YtldkfhimpkiigaaGreatDoor
