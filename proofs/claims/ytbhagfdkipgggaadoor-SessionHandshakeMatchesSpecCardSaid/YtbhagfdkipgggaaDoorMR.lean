/-
  Layer 29 (session) in plain words: what marking a number leaves.
  Layer 29 (session) in plain words: what is accepted was made by the other side.
  Layer 29 (session) in plain words: no number is accepted twice.
-/
import Derived.Test.YtbhagfdkipgggaaDoorMQ
import Derived.Test.YtbhagfdkipgggaaDoorMK
import Derived.Test.YtbhagfdkipgggaaDoorSanW4
namespace Go.Proofs.YtbhagfdkipgggaaDoor
theorem bit_or (a b i : Nat) : seenBit (a ||| b) i = (seenBit a i || seenBit b i) := by rw [bit_of, bit_of, bit_of, Nat.testBit_or]
theorem bit_pow (d : Nat) : seenBit (2 ^ d) d = true := by rw [bit_of, Nat.testBit_two_pow_self]
theorem bit_one : seenBit 1 0 = true := rfl
/-- A number that was marked is not fresh. -/
theorem mark_not_fresh (s : Ses) (n : Int) : freshP (markP s n) n = false := by
  unfold markP
  by_cases hf : freshP s n = true
  · rw [if_pos hf]
    by_cases ht : s.top < n
    · rw [if_pos ht]
      unfold freshP
      dsimp only
      rw [Int.sub_self, Int.toNat_zero, decide_eq_false (Int.lt_irrefl n), Bool.false_or]
      have : seenBit (if n - s.top < 64 then s.seen * 2 ^ (n - s.top).toNat % 18446744073709551616 ||| 1 else 1) 0 = true := by
        by_cases h : n - s.top < 64
        · rw [if_pos h, bit_or, bit_one, Bool.or_true]
        · rw [if_neg h]
          rfl
      rw [this]
      simp
    · rw [if_neg ht]
      unfold freshP
      dsimp only
      rw [bit_or, bit_pow, decide_eq_false ht]
      simp
  · rw [if_neg hf]
    simpa using hf
theorem odd_or (a b : Nat) (h : a % 2 = 1 ∨ b % 2 = 1) : (a ||| b) % 2 = 1 := by
  have h1 : ∀ x : Nat, seenBit x 0 = decide (x % 2 = 1) := fun x => by unfold seenBit; rw [Nat.pow_zero, Nat.div_one]
  have h2 := bit_or a b 0
  rw [h1, h1, h1] at h2
  have h3 : (decide (a % 2 = 1) || decide (b % 2 = 1)) = true := by
    rcases h with h | h
    · rw [decide_eq_true h]; rfl
    · rw [decide_eq_true h, Bool.or_true]
  rw [h3] at h2
  exact of_decide_eq_true h2
/-- A valid session stays valid. -/
theorem mark_valid (s : Ses) (n : Int) (hv : validP s = true) : validP (markP s n) = true := by
  have hp := valid_parts hv
  obtain ⟨a1, a2, a3, a4, a5, a6, a7, a8, a9, a10⟩ := hp
  have hl := validP_last s ⟨a1, a2, a3, a4⟩ ⟨a5, a6⟩ ⟨a7, a8, a9, a10⟩
  rw [hv] at hl
  unfold markP
  by_cases hf : freshP s n = true
  · rw [if_pos hf]
    have hn := fresh_parts hf
    by_cases ht : s.top < n
    · rw [if_pos ht]
      have h3 : 0 ≤ s.sent ∧ s.sent ≤ 4294967296 ∧ 0 ≤ n ∧ n ≤ 4294967296 := ⟨a7, a8, by omega, hn.2⟩
      refine (validP_last ⟨s.id, s.role, s.side, s.key, s.sent, n, _⟩ ⟨a1, a2, a3, a4⟩ ⟨a5, a6⟩ h3).trans ?_
      dsimp only
      rw [if_neg (by omega)]
      obtain ⟨N, hN⟩ : ∃ N : Nat, n = (N : Int) := ⟨n.toNat, by omega⟩
      obtain ⟨T, hT⟩ : ∃ T : Nat, s.top = (T : Int) := ⟨s.top.toNat, by omega⟩
      rw [hT] at ht hl
      rw [hT, hN, Int.toNat_natCast]
      rw [hN] at ht
      have hodd : (if (N : Int) - (T : Int) < 64 then s.seen * 2 ^ ((N : Int) - (T : Int)).toNat % 18446744073709551616 ||| 1 else 1) % 2 = 1 := by
        by_cases h : (N : Int) - (T : Int) < 64
        · rw [if_pos h]
          exact odd_or _ _ (.inr rfl)
        · rw [if_neg h]
      rw [decide_eq_true hodd, Bool.and_true]
      by_cases h64 : N < 64
      · have hlow : (if (N : Int) - (T : Int) < 64 then s.seen * 2 ^ ((N : Int) - (T : Int)).toNat % 18446744073709551616 ||| 1 else 1) / 2 ^ N = 0 := by
          rw [if_pos (by omega), show ((N : Int) - (T : Int)).toNat = N - T by omega]
          apply Nat.div_eq_of_lt
          have h1 : 1 < 2 ^ N := Nat.one_lt_two_pow (by omega)
          refine Nat.or_lt_two_pow (Nat.lt_of_le_of_lt (Nat.mod_le _ _) ?_) h1
          have hseen : s.seen < 2 ^ T := by
            rw [Int.toNat_natCast] at hl
            by_cases h0 : (T : Int) = 0
            · rw [if_pos h0] at hl
              have := of_decide_eq_true hl.symm
              rw [this]
              exact Nat.two_pow_pos _
            · rw [if_neg h0, decide_eq_false (by omega), Bool.false_or] at hl
              have := (Bool.and_eq_true _ _).mp hl.symm
              exact (Nat.div_eq_zero_iff_lt (Nat.two_pow_pos _)).1 (of_decide_eq_true this.1)
          calc s.seen * 2 ^ (N - T) < 2 ^ T * 2 ^ (N - T) := Nat.mul_lt_mul_of_pos_right hseen (Nat.two_pow_pos _)
            _ = 2 ^ N := by rw [← Nat.pow_add]; congr 1; omega
        rw [decide_eq_true hlow, Bool.or_true]
      · rw [decide_eq_true (by omega : (64 : Int) ≤ (N : Int)), Bool.true_or]
    · rw [if_neg ht]
      refine (validP_last ⟨s.id, s.role, s.side, s.key, s.sent, s.top, s.seen ||| 2 ^ (s.top - n).toNat⟩ ⟨a1, a2, a3, a4⟩ ⟨a5, a6⟩ ⟨a7, a8, a9, a10⟩).trans ?_
      dsimp only
      have h0 : ¬ s.top = 0 := by omega
      rw [if_neg h0] at hl ⊢
      obtain ⟨T, hT⟩ : ∃ T : Nat, s.top = (T : Int) := ⟨s.top.toNat, by omega⟩
      rw [hT] at hl ht ⊢
      rw [Int.toNat_natCast] at hl ⊢
      have hl2 := (Bool.and_eq_true _ _).mp hl.symm
      rw [decide_eq_true (odd_or _ _ (.inl (of_decide_eq_true hl2.2))), Bool.and_true]
      by_cases h64 : T < 64
      · have hl3 := hl2.1
        rw [decide_eq_false (by omega), Bool.false_or] at hl3
        have hs := (Nat.div_eq_zero_iff_lt (Nat.two_pow_pos _)).1 (of_decide_eq_true hl3)
        have hlow : (s.seen ||| 2 ^ ((T : Int) - n).toNat) / 2 ^ T = 0 := by
          apply Nat.div_eq_of_lt
          exact Nat.or_lt_two_pow hs (Nat.pow_lt_pow_right (by decide) (by omega))
        rw [decide_eq_true hlow, Bool.or_true]
      · rw [decide_eq_true (by omega : (64 : Int) ≤ (T : Int)), Bool.true_or]
  · rw [if_neg hf]
    exact hv
theorem mark_fits {s : Ses} (hs : s.Fits) (n : Int) (hn : -9223372036854775808 ≤ n ∧ n < 9223372036854775808) : (markP s n).Fits := by
  obtain ⟨h1, h2, h3, h4, h5, h6, h7⟩ := hs
  have hpow : (18446744073709551616 : Nat) = 2 ^ 64 := rfl
  unfold markP
  by_cases hf : freshP s n = true
  · rw [if_pos hf]
    by_cases ht : s.top < n
    · rw [if_pos ht]
      refine ⟨h1, h2, h3, h4, hn, ?_, h7⟩
      dsimp only
      split
      · rw [hpow]
        exact Nat.or_lt_two_pow (Nat.mod_lt _ (Nat.two_pow_pos _)) (by decide)
      · decide
    · rw [if_neg ht]
      refine ⟨h1, h2, h3, h4, h5, ?_, h7⟩
      dsimp only
      rw [hpow] at h6 ⊢
      refine Nat.or_lt_two_pow h6 (Nat.pow_lt_pow_right (by decide) ?_)
      unfold freshP at hf
      rw [decide_eq_false ht, Bool.false_or, Bool.and_eq_true, Bool.and_eq_true, decide_eq_true_eq, decide_eq_true_eq] at hf
      omega
  · rw [if_neg hf]
    exact ⟨h1, h2, h3, h4, h5, h6, h7⟩
end Go.Proofs.YtbhagfdkipgggaaDoor
namespace Go.Proofs.YtbhagfdkipgggaaDoor
open Go.RowKit
theorem openL_len {k ad b t : List UInt8} {e : Nat} (h : openL k ad b = (t, e)) : t.length ≤ b.length := by
  unfold openL at h
  split at h
  · cases h; exact Nat.zero_le _
  · dsimp only at h
    split at h
    · split at h
      · cases h
        rw [xorL_len, List.length_take, List.length_drop]
        omega
      · cases h; exact Nat.zero_le _
    · cases h; exact Nat.zero_le _
/-- What was received was sent by the other side. -/
theorem receive_sent (s : Ses) (m : Msg) (h : (receiveP s m).2.2 = 0) :
    1 ≤ m.num ∧ m.num ≤ 4294967296 ∧ (s.side = 1 ∨ s.side = 2) ∧ validP s = true ∧ (receiveP s m).2.1.size ≤ m.text.size ∧ (sendP { s with side := 3 - s.side, sent := m.num - 1 } (receiveP s m).2.1).2 = (m, 0) := by
  unfold receiveP at h ⊢
  by_cases hv : validP s = true
  · rw [if_pos hv] at h ⊢
    by_cases hs : m.sess = s.id
    · rw [if_pos hs] at h ⊢
      by_cases hf : freshP s m.num = true
      · rw [if_pos hf] at h ⊢
        by_cases ho : (openP s m).2 = 0
        · rw [if_pos ho] at h ⊢
          have hn := fresh_parts hf
          obtain ⟨a1, a2, a3, a4, a5, a6, a7, a8, a9, a10⟩ := valid_parts hv
          dsimp only
          have hop : openL (bl s.key) (bl (ctxP s.id (3 - s.side) m.num)) (bl m.text) = ((openP s m).1, 0) := by
            rw [← ho]
            rfl
          refine ⟨hn.1, hn.2, a5, hv, ?_, ?_⟩
          · have := openL_len hop
            rw [txt_size]
            rw [bl_len] at this
            exact this
          · have hv2 : validP { s with side := 3 - s.side, sent := m.num - 1 } = true := by
              have h1 := validP_last s ⟨a1, a2, a3, a4⟩ ⟨a5, a6⟩ ⟨a7, a8, a9, a10⟩
              have hb : 0 ≤ m.num - 1 ∧ m.num - 1 ≤ 4294967296 ∧ 0 ≤ s.top ∧ s.top ≤ 4294967296 := ⟨by omega, by omega, a9, a10⟩
              have h2 := validP_last ⟨s.id, s.role, 3 - s.side, s.key, m.num - 1, s.top, s.seen⟩ ⟨a1, a2, a3, a4⟩ ⟨by dsimp only; omega, a6⟩ hb
              exact h2.trans (h1.symm.trans hv)
            unfold sendP
            rw [if_pos hv2]
            have hb : ¬ m.num - 1 = 4294967296 := by omega
            refine (congrArg Prod.snd (if_neg hb)).trans ?_
            dsimp only
            have e1 : m.num - 1 + 1 = m.num := by omega
            have e2 : sealP { s with side := 3 - s.side, sent := m.num - 1 } (txt (openP s m).1) = m.text := by
              unfold sealP
              dsimp only
              rw [e1, bl_txt, seal_open _ _ _ _ hop, txt_bl]
            rw [e1, e2, ← hs]
        · rw [if_neg ho] at h
          exact absurd h ho
      · rw [if_neg hf] at h
        cases h
    · rw [if_neg hs] at h
      cases h
  · rw [if_neg hv] at h
    cases h
theorem start_opens {s : ByteArray} {h : Hel} {id side : Int} {n : ByteArray} (hz : (startP s h id side n).2.2 = 0) : Opens s h.role h.nonce ∧ 1 ≤ id ∧ id ≤ 64 ∧ n.size = 16 := by
  unfold startP at hz
  split at hz
  · assumption
  · cases hz
/-- A hello that is accepted is the one that Greet makes. -/
theorem accept_greet (s : ByteArray) (h : Hel) (id : Int) (n : ByteArray) (he : (acceptP s h id n).2.2 = 0) : greetP s h.role h.nonce = (h, 0) := by
  unfold acceptP at he
  dsimp only at he
  by_cases hz : (startP s h id 2 n).2.2 = 0
  · rw [if_pos hz] at he
    by_cases ht : h.tag = txt (helloL (bl s) h.role.toNat (bl h.nonce))
    · unfold greetP
      rw [if_pos (start_opens hz).1, ← ht]
    · rw [if_neg ht] at he
      cases he
  · rw [if_neg hz] at he
    cases he
/-- A welcome that is accepted is the one that Accept makes. -/
theorem join_accept (s : ByteArray) (h : Hel) (w : Wel) (he : (joinP s h w).2 = 0) :
    ∃ (own : Hel) (S : Ses), greetP s h.role h.nonce = (own, 0) ∧ acceptP s own w.sess w.nonce = (S, w, 0) := by
  unfold joinP at he
  dsimp only at he
  by_cases hz : (startP s h w.sess 1 w.nonce).2.2 = 0
  · rw [if_pos hz] at he
    by_cases ht : w.tag = (startP s h w.sess 1 w.nonce).2.1
    · have ho := start_opens hz
      refine ⟨⟨h.role, h.nonce, txt (helloL (bl s) h.role.toNat (bl h.nonce))⟩, ⟨w.sess, h.role, 2, txt (skeyL (bl s) h.role.toNat w.sess.toNat h.nonce w.nonce), 0, 0, 0⟩, ?_, ?_⟩
      · unfold greetP
        rw [if_pos ho.1]
      · have e1 : startP s ⟨h.role, h.nonce, txt (helloL (bl s) h.role.toNat (bl h.nonce))⟩ w.sess 2 w.nonce = (⟨w.sess, h.role, 2, txt (skeyL (bl s) h.role.toNat w.sess.toNat h.nonce w.nonce), 0, 0, 0⟩, txt (welcomeL (skeyL (bl s) h.role.toNat w.sess.toNat h.nonce w.nonce)), 0) := by
          unfold startP
          exact if_pos ho
        have e2 : (startP s h w.sess 1 w.nonce).2.1 = txt (welcomeL (skeyL (bl s) h.role.toNat w.sess.toNat h.nonce w.nonce)) := by
          unfold startP
          rw [if_pos ho]
        unfold acceptP
        dsimp only
        rw [e1]
        dsimp only
        rw [if_pos rfl, if_pos rfl, ← e2, ← ht]
    · rw [if_neg ht] at he
      cases he
  · rw [if_neg hz] at he
    cases he
end Go.Proofs.YtbhagfdkipgggaaDoor
namespace Go.Proofs.YtbhagfdkipgggaaDoor
open Go.RowKit
theorem mark_parts (s : Ses) (n : Int) : markP s n = { s with top := (markP s n).top, seen := (markP s n).seen } := by
  unfold markP
  split
  · split <;> rfl
  · rfl
/-- What is not fresh stays so. -/
theorem stale_stays (s : Ses) (n t : Int) (_h0 : 0 ≤ s.top) (ht : freshP s t = false) : freshP (markP s n) t = false := by
  by_cases hf : freshP s n = true
  · by_cases htr : 1 ≤ t ∧ t ≤ 4294967296
    · have ht2 := ht
      unfold freshP at ht2
      rw [decide_eq_true htr, Bool.true_and, Bool.or_eq_false_iff, decide_eq_false_iff_not, Bool.and_eq_false_iff, decide_eq_false_iff_not] at ht2
      obtain ⟨h1, h2⟩ := ht2
      unfold markP
      rw [if_pos hf]
      by_cases hn : s.top < n
      · rw [if_pos hn]
        unfold freshP
        dsimp only
        rw [decide_eq_true htr, Bool.true_and, decide_eq_false (by omega : ¬ n < t), Bool.false_or]
        by_cases h64 : n - t < 64
        · rw [decide_eq_true h64, Bool.true_and]
          have hb : seenBit s.seen (s.top - t).toNat = true := by
            rcases h2 with h | h
            · omega
            · simpa using h
          rw [if_pos (by omega), bit_or, bit_of, show (18446744073709551616 : Nat) = 2 ^ 64 from rfl, Nat.testBit_mod_two_pow, decide_eq_true (by omega : (n - t).toNat < 64), Bool.true_and, Nat.mul_comm, Nat.testBit_two_pow_mul, decide_eq_true (by omega : (n - t).toNat ≥ (n - s.top).toNat), Bool.true_and]
          rw [bit_of] at hb
          rw [show (n - t).toNat - (n - s.top).toNat = (s.top - t).toNat by omega, hb]
          rfl
        · rw [decide_eq_false h64, Bool.false_and]
      · rw [if_neg hn]
        unfold freshP
        dsimp only
        rw [decide_eq_true htr, Bool.true_and, decide_eq_false h1, Bool.false_or]
        rcases h2 with h | h
        · rw [decide_eq_false h, Bool.false_and]
        · have hb : seenBit s.seen (s.top - t).toNat = true := by simpa using h
          rw [bit_or, hb, Bool.true_or, Bool.not_true, Bool.and_false]
    · unfold freshP
      rw [decide_eq_false htr, Bool.false_and]
  · have : markP s n = s := by unfold markP; rw [if_neg hf]
    rw [this]
    exact ht
/-- What a fresh number does to the greatest one. -/
theorem mark_top (s : Ses) (n : Int) (hf : freshP s n = true) : s.top - n < 64 ∧ s.top ≤ (markP s n).top ∧ n ≤ (markP s n).top := by
  have hf2 := hf
  unfold freshP at hf2
  rw [Bool.and_eq_true, decide_eq_true_eq, Bool.or_eq_true, decide_eq_true_eq, Bool.and_eq_true, decide_eq_true_eq] at hf2
  unfold markP
  rw [if_pos hf]
  by_cases hn : s.top < n
  · rw [if_pos hn]
    dsimp only
    omega
  · rw [if_neg hn]
    dsimp only
    omega
/-- The peer of a valid session sends. -/
theorem peer_send (s : Ses) (t : ByteArray) (x : Nat) (hv : validP s = true) (hx : x < 65536) :
    sendP { s with side := 3 - s.side, sent := x } t = ({ s with side := 3 - s.side, sent := x + 1 }, ⟨s.id, x + 1, sealP { s with side := 3 - s.side, sent := x } t⟩, 0) := by
  obtain ⟨a1, a2, a3, a4, a5, a6, a7, a8, a9, a10⟩ := valid_parts hv
  have h1 := validP_last s ⟨a1, a2, a3, a4⟩ ⟨a5, a6⟩ ⟨a7, a8, a9, a10⟩
  have hb : 0 ≤ (x : Int) ∧ (x : Int) ≤ 4294967296 ∧ 0 ≤ s.top ∧ s.top ≤ 4294967296 := ⟨by omega, by omega, a9, a10⟩
  have h2 := validP_last ⟨s.id, s.role, 3 - s.side, s.key, (x : Int), s.top, s.seen⟩ ⟨a1, a2, a3, a4⟩ ⟨by dsimp only; omega, a6⟩ hb
  have hv2 : validP { s with side := 3 - s.side, sent := (x : Int) } = true := h2.trans (h1.symm.trans hv)
  unfold sendP
  rw [if_pos hv2]
  have hb2 : ¬ (x : Int) = 4294967296 := by omega
  exact if_neg hb2
/-- What the peer sends is received, if it is fresh. -/
theorem peer_recv (s : Ses) (t : ByteArray) (x : Nat) (top : Int) (seen : Nat) (hv : validP { s with top := top, seen := seen } = true) :
    receiveP { s with top := top, seen := seen } ⟨s.id, x + 1, sealP { s with side := 3 - s.side, sent := x } t⟩ =
      if freshP { s with top := top, seen := seen } (x + 1) = true then (markP { s with top := top, seen := seen } (x + 1), t, 0) else (noSes, noT, 17) := by
  have ho : openP { s with top := top, seen := seen } ⟨s.id, (x : Int) + 1, sealP { s with side := 3 - s.side, sent := x } t⟩ = (bl t, 0) := by
    unfold openP sealP
    dsimp only
    rw [bl_txt]
    exact open_seal _ _ _
  unfold receiveP
  rw [if_pos hv, ho]
  dsimp only
  by_cases hf : freshP { s with top := top, seen := seen } ((x : Int) + 1) = true
  · rw [if_pos rfl, if_pos hf, if_pos hf, if_pos rfl, txt_bl]
  · rw [if_pos rfl, if_neg hf, if_neg hf]
end Go.Proofs.YtbhagfdkipgggaaDoor
