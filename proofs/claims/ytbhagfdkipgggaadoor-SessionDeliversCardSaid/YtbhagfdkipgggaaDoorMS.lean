/-
  Layer 29 (session) in plain words: what marking a number leaves.
  Layer 29 (session) in plain words: what is accepted was made by the other side.
  Layer 29 (session) in plain words: no number is accepted twice.
  Layer 29 (session) in plain words: a handshake that succeeds, and what is delivered.
-/
import Derived.Test.YtbhagfdkipgggaaDoorMQ
import Derived.Test.YtbhagfdkipgggaaDoorMK
import Derived.Test.YtbhagfdkipgggaaDoorSanW4
namespace Go.Proofs.YtbhagfdkipgggaaDoor
theorem bit_or (a b i : Nat) : seenBit (a ||| b) i = (seenBit a i || seenBit b i) := by rw [bit_of, bit_of, bit_of, Nat.testBit_or]
theorem bit_pow (d : Nat) : seenBit (2 ^ d) d = true := by rw [bit_of, Nat.testBit_two_pow_self]
theorem bit_one : seenBit 1 0 = true := rfl
/-- A number that was marked is not fresh. -/
theorem mark_not_fresh (s : Ses) (n : Int) : freshP (markP s n) n = false := by
  unfold markP
  by_cases hf : freshP s n = true
  · rw [if_pos hf]
    by_cases ht : s.top < n
    · rw [if_pos ht]
      unfold freshP
      dsimp only
      rw [Int.sub_self, Int.toNat_zero, decide_eq_false (Int.lt_irrefl n), Bool.false_or]
      have : seenBit (if n - s.top < 64 then s.seen * 2 ^ (n - s.top).toNat % 18446744073709551616 ||| 1 else 1) 0 = true := by
        by_cases h : n - s.top < 64
        · rw [if_pos h, bit_or, bit_one, Bool.or_true]
        · rw [if_neg h]
          rfl
      rw [this]
      simp
    · rw [if_neg ht]
      unfold freshP
      dsimp only
      rw [bit_or, bit_pow, decide_eq_false ht]
      simp
  · rw [if_neg hf]
    simpa using hf
theorem odd_or (a b : Nat) (h : a % 2 = 1 ∨ b % 2 = 1) : (a ||| b) % 2 = 1 := by
  have h1 : ∀ x : Nat, seenBit x 0 = decide (x % 2 = 1) := fun x => by unfold seenBit; rw [Nat.pow_zero, Nat.div_one]
  have h2 := bit_or a b 0
  rw [h1, h1, h1] at h2
  have h3 : (decide (a % 2 = 1) || decide (b % 2 = 1)) = true := by
    rcases h with h | h
    · rw [decide_eq_true h]; rfl
    · rw [decide_eq_true h, Bool.or_true]
  rw [h3] at h2
  exact of_decide_eq_true h2
/-- A valid session stays valid. -/
theorem mark_valid (s : Ses) (n : Int) (hv : validP s = true) : validP (markP s n) = true := by
  have hp := valid_parts hv
  obtain ⟨a1, a2, a3, a4, a5, a6, a7, a8, a9, a10⟩ := hp
  have hl := validP_last s ⟨a1, a2, a3, a4⟩ ⟨a5, a6⟩ ⟨a7, a8, a9, a10⟩
  rw [hv] at hl
  unfold markP
  by_cases hf : freshP s n = true
  · rw [if_pos hf]
    have hn := fresh_parts hf
    by_cases ht : s.top < n
    · rw [if_pos ht]
      have h3 : 0 ≤ s.sent ∧ s.sent ≤ 4294967296 ∧ 0 ≤ n ∧ n ≤ 4294967296 := ⟨a7, a8, by omega, hn.2⟩
      refine (validP_last ⟨s.id, s.role, s.side, s.key, s.sent, n, _⟩ ⟨a1, a2, a3, a4⟩ ⟨a5, a6⟩ h3).trans ?_
      dsimp only
      rw [if_neg (by omega)]
      obtain ⟨N, hN⟩ : ∃ N : Nat, n = (N : Int) := ⟨n.toNat, by omega⟩
      obtain ⟨T, hT⟩ : ∃ T : Nat, s.top = (T : Int) := ⟨s.top.toNat, by omega⟩
      rw [hT] at ht hl
      rw [hT, hN, Int.toNat_natCast]
      rw [hN] at ht
      have hodd : (if (N : Int) - (T : Int) < 64 then s.seen * 2 ^ ((N : Int) - (T : Int)).toNat % 18446744073709551616 ||| 1 else 1) % 2 = 1 := by
        by_cases h : (N : Int) - (T : Int) < 64
        · rw [if_pos h]
          exact odd_or _ _ (.inr rfl)
        · rw [if_neg h]
      rw [decide_eq_true hodd, Bool.and_true]
      by_cases h64 : N < 64
      · have hlow : (if (N : Int) - (T : Int) < 64 then s.seen * 2 ^ ((N : Int) - (T : Int)).toNat % 18446744073709551616 ||| 1 else 1) / 2 ^ N = 0 := by
          rw [if_pos (by omega), show ((N : Int) - (T : Int)).toNat = N - T by omega]
          apply Nat.div_eq_of_lt
          have h1 : 1 < 2 ^ N := Nat.one_lt_two_pow (by omega)
          refine Nat.or_lt_two_pow (Nat.lt_of_le_of_lt (Nat.mod_le _ _) ?_) h1
          have hseen : s.seen < 2 ^ T := by
            rw [Int.toNat_natCast] at hl
            by_cases h0 : (T : Int) = 0
            · rw [if_pos h0] at hl
              have := of_decide_eq_true hl.symm
              rw [this]
              exact Nat.two_pow_pos _
            · rw [if_neg h0, decide_eq_false (by omega), Bool.false_or] at hl
              have := (Bool.and_eq_true _ _).mp hl.symm
              exact (Nat.div_eq_zero_iff_lt (Nat.two_pow_pos _)).1 (of_decide_eq_true this.1)
          calc s.seen * 2 ^ (N - T) < 2 ^ T * 2 ^ (N - T) := Nat.mul_lt_mul_of_pos_right hseen (Nat.two_pow_pos _)
            _ = 2 ^ N := by rw [← Nat.pow_add]; congr 1; omega
        rw [decide_eq_true hlow, Bool.or_true]
      · rw [decide_eq_true (by omega : (64 : Int) ≤ (N : Int)), Bool.true_or]
    · rw [if_neg ht]
      refine (validP_last ⟨s.id, s.role, s.side, s.key, s.sent, s.top, s.seen ||| 2 ^ (s.top - n).toNat⟩ ⟨a1, a2, a3, a4⟩ ⟨a5, a6⟩ ⟨a7, a8, a9, a10⟩).trans ?_
      dsimp only
      have h0 : ¬ s.top = 0 := by omega
      rw [if_neg h0] at hl ⊢
      obtain ⟨T, hT⟩ : ∃ T : Nat, s.top = (T : Int) := ⟨s.top.toNat, by omega⟩
      rw [hT] at hl ht ⊢
      rw [Int.toNat_natCast] at hl ⊢
      have hl2 := (Bool.and_eq_true _ _).mp hl.symm
      rw [decide_eq_true (odd_or _ _ (.inl (of_decide_eq_true hl2.2))), Bool.and_true]
      by_cases h64 : T < 64
      · have hl3 := hl2.1
        rw [decide_eq_false (by omega), Bool.false_or] at hl3
        have hs := (Nat.div_eq_zero_iff_lt (Nat.two_pow_pos _)).1 (of_decide_eq_true hl3)
        have hlow : (s.seen ||| 2 ^ ((T : Int) - n).toNat) / 2 ^ T = 0 := by
          apply Nat.div_eq_of_lt
          exact Nat.or_lt_two_pow hs (Nat.pow_lt_pow_right (by decide) (by omega))
        rw [decide_eq_true hlow, Bool.or_true]
      · rw [decide_eq_true (by omega : (64 : Int) ≤ (T : Int)), Bool.true_or]
  · rw [if_neg hf]
    exact hv
theorem mark_fits {s : Ses} (hs : s.Fits) (n : Int) (hn : -9223372036854775808 ≤ n ∧ n < 9223372036854775808) : (markP s n).Fits := by
  obtain ⟨h1, h2, h3, h4, h5, h6, h7⟩ := hs
  have hpow : (18446744073709551616 : Nat) = 2 ^ 64 := rfl
  unfold markP
  by_cases hf : freshP s n = true
  · rw [if_pos hf]
    by_cases ht : s.top < n
    · rw [if_pos ht]
      refine ⟨h1, h2, h3, h4, hn, ?_, h7⟩
      dsimp only
      split
      · rw [hpow]
        exact Nat.or_lt_two_pow (Nat.mod_lt _ (Nat.two_pow_pos _)) (by decide)
      · decide
    · rw [if_neg ht]
      refine ⟨h1, h2, h3, h4, h5, ?_, h7⟩
      dsimp only
      rw [hpow] at h6 ⊢
      refine Nat.or_lt_two_pow h6 (Nat.pow_lt_pow_right (by decide) ?_)
      unfold freshP at hf
      rw [decide_eq_false ht, Bool.false_or, Bool.and_eq_true, Bool.and_eq_true, decide_eq_true_eq, decide_eq_true_eq] at hf
      omega
  · rw [if_neg hf]
    exact ⟨h1, h2, h3, h4, h5, h6, h7⟩
end Go.Proofs.YtbhagfdkipgggaaDoor
namespace Go.Proofs.YtbhagfdkipgggaaDoor
open Go.RowKit
theorem openL_len {k ad b t : List UInt8} {e : Nat} (h : openL k ad b = (t, e)) : t.length ≤ b.length := by
  unfold openL at h
  split at h
  · cases h; exact Nat.zero_le _
  · dsimp only at h
    split at h
    · split at h
      · cases h
        rw [xorL_len, List.length_take, List.length_drop]
        omega
      · cases h; exact Nat.zero_le _
    · cases h; exact Nat.zero_le _
/-- What was received was sent by the other side. -/
theorem receive_sent (s : Ses) (m : Msg) (h : (receiveP s m).2.2 = 0) :
    1 ≤ m.num ∧ m.num ≤ 4294967296 ∧ (s.side = 1 ∨ s.side = 2) ∧ validP s = true ∧ (receiveP s m).2.1.size ≤ m.text.size ∧ (sendP { s with side := 3 - s.side, sent := m.num - 1 } (receiveP s m).2.1).2 = (m, 0) := by
  unfold receiveP at h ⊢
  by_cases hv : validP s = true
  · rw [if_pos hv] at h ⊢
    by_cases hs : m.sess = s.id
    · rw [if_pos hs] at h ⊢
      by_cases hf : freshP s m.num = true
      · rw [if_pos hf] at h ⊢
        by_cases ho : (openP s m).2 = 0
        · rw [if_pos ho] at h ⊢
          have hn := fresh_parts hf
          obtain ⟨a1, a2, a3, a4, a5, a6, a7, a8, a9, a10⟩ := valid_parts hv
          dsimp only
          have hop : openL (bl s.key) (bl (ctxP s.id (3 - s.side) m.num)) (bl m.text) = ((openP s m).1, 0) := by
            rw [← ho]
            rfl
          refine ⟨hn.1, hn.2, a5, hv, ?_, ?_⟩
          · have := openL_len hop
            rw [txt_size]
            rw [bl_len] at this
            exact this
          · have hv2 : validP { s with side := 3 - s.side, sent := m.num - 1 } = true := by
              have h1 := validP_last s ⟨a1, a2, a3, a4⟩ ⟨a5, a6⟩ ⟨a7, a8, a9, a10⟩
              have hb : 0 ≤ m.num - 1 ∧ m.num - 1 ≤ 4294967296 ∧ 0 ≤ s.top ∧ s.top ≤ 4294967296 := ⟨by omega, by omega, a9, a10⟩
              have h2 := validP_last ⟨s.id, s.role, 3 - s.side, s.key, m.num - 1, s.top, s.seen⟩ ⟨a1, a2, a3, a4⟩ ⟨by dsimp only; omega, a6⟩ hb
              exact h2.trans (h1.symm.trans hv)
            unfold sendP
            rw [if_pos hv2]
            have hb : ¬ m.num - 1 = 4294967296 := by omega
            refine (congrArg Prod.snd (if_neg hb)).trans ?_
            dsimp only
            have e1 : m.num - 1 + 1 = m.num := by omega
            have e2 : sealP { s with side := 3 - s.side, sent := m.num - 1 } (txt (openP s m).1) = m.text := by
              unfold sealP
              dsimp only
              rw [e1, bl_txt, seal_open _ _ _ _ hop, txt_bl]
            rw [e1, e2, ← hs]
        · rw [if_neg ho] at h
          exact absurd h ho
      · rw [if_neg hf] at h
        cases h
    · rw [if_neg hs] at h
      cases h
  · rw [if_neg hv] at h
    cases h
theorem start_opens {s : ByteArray} {h : Hel} {id side : Int} {n : ByteArray} (hz : (startP s h id side n).2.2 = 0) : Opens s h.role h.nonce ∧ 1 ≤ id ∧ id ≤ 64 ∧ n.size = 16 := by
  unfold startP at hz
  split at hz
  · assumption
  · cases hz
/-- A hello that is accepted is the one that Greet makes. -/
theorem accept_greet (s : ByteArray) (h : Hel) (id : Int) (n : ByteArray) (he : (acceptP s h id n).2.2 = 0) : greetP s h.role h.nonce = (h, 0) := by
  unfold acceptP at he
  dsimp only at he
  by_cases hz : (startP s h id 2 n).2.2 = 0
  · rw [if_pos hz] at he
    by_cases ht : h.tag = txt (helloL (bl s) h.role.toNat (bl h.nonce))
    · unfold greetP
      rw [if_pos (start_opens hz).1, ← ht]
    · rw [if_neg ht] at he
      cases he
  · rw [if_neg hz] at he
    cases he
/-- A welcome that is accepted is the one that Accept makes. -/
theorem join_accept (s : ByteArray) (h : Hel) (w : Wel) (he : (joinP s h w).2 = 0) :
    ∃ (own : Hel) (S : Ses), greetP s h.role h.nonce = (own, 0) ∧ acceptP s own w.sess w.nonce = (S, w, 0) := by
  unfold joinP at he
  dsimp only at he
  by_cases hz : (startP s h w.sess 1 w.nonce).2.2 = 0
  · rw [if_pos hz] at he
    by_cases ht : w.tag = (startP s h w.sess 1 w.nonce).2.1
    · have ho := start_opens hz
      refine ⟨⟨h.role, h.nonce, txt (helloL (bl s) h.role.toNat (bl h.nonce))⟩, ⟨w.sess, h.role, 2, txt (skeyL (bl s) h.role.toNat w.sess.toNat h.nonce w.nonce), 0, 0, 0⟩, ?_, ?_⟩
      · unfold greetP
        rw [if_pos ho.1]
      · have e1 : startP s ⟨h.role, h.nonce, txt (helloL (bl s) h.role.toNat (bl h.nonce))⟩ w.sess 2 w.nonce = (⟨w.sess, h.role, 2, txt (skeyL (bl s) h.role.toNat w.sess.toNat h.nonce w.nonce), 0, 0, 0⟩, txt (welcomeL (skeyL (bl s) h.role.toNat w.sess.toNat h.nonce w.nonce)), 0) := by
          unfold startP
          exact if_pos ho
        have e2 : (startP s h w.sess 1 w.nonce).2.1 = txt (welcomeL (skeyL (bl s) h.role.toNat w.sess.toNat h.nonce w.nonce)) := by
          unfold startP
          rw [if_pos ho]
        unfold acceptP
        dsimp only
        rw [e1]
        dsimp only
        rw [if_pos rfl, if_pos rfl, ← e2, ← ht]
    · rw [if_neg ht] at he
      cases he
  · rw [if_neg hz] at he
    cases he
end Go.Proofs.YtbhagfdkipgggaaDoor
namespace Go.Proofs.YtbhagfdkipgggaaDoor
open Go.RowKit
theorem mark_parts (s : Ses) (n : Int) : markP s n = { s with top := (markP s n).top, seen := (markP s n).seen } := by
  unfold markP
  split
  · split <;> rfl
  · rfl
/-- What is not fresh stays so. -/
theorem stale_stays (s : Ses) (n t : Int) (_h0 : 0 ≤ s.top) (ht : freshP s t = false) : freshP (markP s n) t = false := by
  by_cases hf : freshP s n = true
  · by_cases htr : 1 ≤ t ∧ t ≤ 4294967296
    · have ht2 := ht
      unfold freshP at ht2
      rw [decide_eq_true htr, Bool.true_and, Bool.or_eq_false_iff, decide_eq_false_iff_not, Bool.and_eq_false_iff, decide_eq_false_iff_not] at ht2
      obtain ⟨h1, h2⟩ := ht2
      unfold markP
      rw [if_pos hf]
      by_cases hn : s.top < n
      · rw [if_pos hn]
        unfold freshP
        dsimp only
        rw [decide_eq_true htr, Bool.true_and, decide_eq_false (by omega : ¬ n < t), Bool.false_or]
        by_cases h64 : n - t < 64
        · rw [decide_eq_true h64, Bool.true_and]
          have hb : seenBit s.seen (s.top - t).toNat = true := by
            rcases h2 with h | h
            · omega
            · simpa using h
          rw [if_pos (by omega), bit_or, bit_of, show (18446744073709551616 : Nat) = 2 ^ 64 from rfl, Nat.testBit_mod_two_pow, decide_eq_true (by omega : (n - t).toNat < 64), Bool.true_and, Nat.mul_comm, Nat.testBit_two_pow_mul, decide_eq_true (by omega : (n - t).toNat ≥ (n - s.top).toNat), Bool.true_and]
          rw [bit_of] at hb
          rw [show (n - t).toNat - (n - s.top).toNat = (s.top - t).toNat by omega, hb]
          rfl
        · rw [decide_eq_false h64, Bool.false_and]
      · rw [if_neg hn]
        unfold freshP
        dsimp only
        rw [decide_eq_true htr, Bool.true_and, decide_eq_false h1, Bool.false_or]
        rcases h2 with h | h
        · rw [decide_eq_false h, Bool.false_and]
        · have hb : seenBit s.seen (s.top - t).toNat = true := by simpa using h
          rw [bit_or, hb, Bool.true_or, Bool.not_true, Bool.and_false]
    · unfold freshP
      rw [decide_eq_false htr, Bool.false_and]
  · have : markP s n = s := by unfold markP; rw [if_neg hf]
    rw [this]
    exact ht
/-- What a fresh number does to the greatest one. -/
theorem mark_top (s : Ses) (n : Int) (hf : freshP s n = true) : s.top - n < 64 ∧ s.top ≤ (markP s n).top ∧ n ≤ (markP s n).top := by
  have hf2 := hf
  unfold freshP at hf2
  rw [Bool.and_eq_true, decide_eq_true_eq, Bool.or_eq_true, decide_eq_true_eq, Bool.and_eq_true, decide_eq_true_eq] at hf2
  unfold markP
  rw [if_pos hf]
  by_cases hn : s.top < n
  · rw [if_pos hn]
    dsimp only
    omega
  · rw [if_neg hn]
    dsimp only
    omega
/-- The peer of a valid session sends. -/
theorem peer_send (s : Ses) (t : ByteArray) (x : Nat) (hv : validP s = true) (hx : x < 65536) :
    sendP { s with side := 3 - s.side, sent := x } t = ({ s with side := 3 - s.side, sent := x + 1 }, ⟨s.id, x + 1, sealP { s with side := 3 - s.side, sent := x } t⟩, 0) := by
  obtain ⟨a1, a2, a3, a4, a5, a6, a7, a8, a9, a10⟩ := valid_parts hv
  have h1 := validP_last s ⟨a1, a2, a3, a4⟩ ⟨a5, a6⟩ ⟨a7, a8, a9, a10⟩
  have hb : 0 ≤ (x : Int) ∧ (x : Int) ≤ 4294967296 ∧ 0 ≤ s.top ∧ s.top ≤ 4294967296 := ⟨by omega, by omega, a9, a10⟩
  have h2 := validP_last ⟨s.id, s.role, 3 - s.side, s.key, (x : Int), s.top, s.seen⟩ ⟨a1, a2, a3, a4⟩ ⟨by dsimp only; omega, a6⟩ hb
  have hv2 : validP { s with side := 3 - s.side, sent := (x : Int) } = true := h2.trans (h1.symm.trans hv)
  unfold sendP
  rw [if_pos hv2]
  have hb2 : ¬ (x : Int) = 4294967296 := by omega
  exact if_neg hb2
/-- What the peer sends is received, if it is fresh. -/
theorem peer_recv (s : Ses) (t : ByteArray) (x : Nat) (top : Int) (seen : Nat) (hv : validP { s with top := top, seen := seen } = true) :
    receiveP { s with top := top, seen := seen } ⟨s.id, x + 1, sealP { s with side := 3 - s.side, sent := x } t⟩ =
      if freshP { s with top := top, seen := seen } (x + 1) = true then (markP { s with top := top, seen := seen } (x + 1), t, 0) else (noSes, noT, 17) := by
  have ho : openP { s with top := top, seen := seen } ⟨s.id, (x : Int) + 1, sealP { s with side := 3 - s.side, sent := x } t⟩ = (bl t, 0) := by
    unfold openP sealP
    dsimp only
    rw [bl_txt]
    exact open_seal _ _ _
  unfold receiveP
  rw [if_pos hv, ho]
  dsimp only
  by_cases hf : freshP { s with top := top, seen := seen } ((x : Int) + 1) = true
  · rw [if_pos rfl, if_pos hf, if_pos hf, if_pos rfl, txt_bl]
  · rw [if_pos rfl, if_neg hf, if_neg hf]
end Go.Proofs.YtbhagfdkipgggaaDoor
namespace Go.Proofs.YtbhagfdkipgggaaDoor
theorem meet_plain (s a b : ByteArray) (role id : Int) (hs : s.size = 32) (hr : 1 ≤ role ∧ role ≤ 3) (hi : 1 ≤ id ∧ id ≤ 64) (ha : a.size = 16) (hb : b.size = 16) :
    ∃ (H : Hel) (W : Wel) (K : ByteArray), K.size = 32 ∧ greetP s role a = (H, 0) ∧ acceptP s H id b = (⟨id, role, 2, K, 0, 0, 0⟩, W, 0) ∧ joinP s H W = (⟨id, role, 1, K, 0, 0, 0⟩, 0) ∧ H.tag.size < 100 ∧ W.tag.size < 100 := by
  have hO : Opens s role a := ⟨hs, hr.1, hr.2, ha⟩
  have hst : ∀ side tag, startP s ⟨role, a, tag⟩ id side b = (⟨id, role, side, txt (skeyL (bl s) role.toNat id.toNat a b), 0, 0, 0⟩, txt (welcomeL (skeyL (bl s) role.toNat id.toNat a b)), 0) := fun side tag => by
    unfold startP
    exact if_pos ⟨hO, hi.1, hi.2, hb⟩
  refine ⟨⟨role, a, txt (helloL (bl s) role.toNat (bl a))⟩, ⟨id, b, txt (welcomeL (skeyL (bl s) role.toNat id.toNat a b))⟩, txt (skeyL (bl s) role.toNat id.toNat a b), ?_, ?_, ?_, ?_, ?_, ?_⟩
  · rw [txt_size]; exact deriveL_len _ _ _
  · unfold greetP; rw [if_pos hO]
  · unfold acceptP
    rw [hst]
    dsimp only
    rw [if_pos rfl, if_pos rfl]
  · unfold joinP
    dsimp only
    rw [hst]
    dsimp only
    rw [if_pos rfl, if_pos rfl]
  · dsimp only
    unfold helloL
    rw [txt_size, codeL_len]
    decide
  · dsimp only
    unfold welcomeL
    rw [txt_size, codeL_len]
    decide
theorem bit_two (a j : Nat) : seenBit (2 ^ a) j = decide (a = j) := by rw [bit_of, Nat.testBit_two_pow]
theorem bit_one_ne (j : Nat) (h : 0 < j) : seenBit 1 j = false := by
  rw [show (1 : Nat) = 2 ^ 0 from rfl, bit_two]
  exact decide_eq_false (by omega)
theorem mark_top_le (s : Ses) (n m : Int) (h1 : s.top ≤ m) (h2 : n ≤ m) : (markP s n).top ≤ m := by
  unfold markP
  split
  · split
    · exact h2
    · exact h1
  · exact h1
/-- Another number that is fresh stays so. -/
theorem fresh_keeps (s : Ses) (n t : Int) (h0 : 0 ≤ s.top) (hs : s.top ≤ 60) (hn : 1 ≤ n ∧ n ≤ 60) (ht : 1 ≤ t ∧ t ≤ 60) (hne : t ≠ n) (h : freshP s t = true) : freshP (markP s n) t = true := by
  by_cases hf : freshP s n = true
  · have htr : 1 ≤ t ∧ t ≤ 4294967296 := ⟨ht.1, by omega⟩
    have h2 := h
    unfold freshP at h2
    rw [decide_eq_true htr, Bool.true_and, Bool.or_eq_true, decide_eq_true_eq, Bool.and_eq_true, decide_eq_true_eq, Bool.not_eq_true'] at h2
    unfold markP
    rw [if_pos hf]
    by_cases hl : s.top < n
    · rw [if_pos hl]
      unfold freshP
      dsimp only
      rw [decide_eq_true htr, Bool.true_and]
      by_cases h3 : n < t
      · rw [decide_eq_true h3, Bool.true_or]
      · rw [decide_eq_false h3, Bool.false_or, decide_eq_true (by omega : n - t < 64), Bool.true_and, if_pos (by omega), bit_or, bit_one_ne _ (by omega), Bool.or_false, bit_of, show (18446744073709551616 : Nat) = 2 ^ 64 from rfl, Nat.testBit_mod_two_pow, decide_eq_true (by omega : (n - t).toNat < 64), Bool.true_and, Nat.mul_comm, Nat.testBit_two_pow_mul]
        by_cases h4 : t ≤ s.top
        · have hb : seenBit s.seen (s.top - t).toNat = false := by
            rcases h2 with h5 | h5
            · omega
            · exact h5.2
          rw [bit_of] at hb
          rw [show (n - t).toNat - (n - s.top).toNat = (s.top - t).toNat by omega, hb, Bool.and_false]
          rfl
        · rw [decide_eq_false (by omega : ¬ (n - t).toNat ≥ (n - s.top).toNat), Bool.false_and]
          rfl
    · rw [if_neg hl]
      unfold freshP
      dsimp only
      rw [decide_eq_true htr, Bool.true_and]
      by_cases h3 : s.top < t
      · rw [decide_eq_true h3, Bool.true_or]
      · have hb : seenBit s.seen (s.top - t).toNat = false := by
          rcases h2 with h5 | h5
          · omega
          · exact h5.2
        rw [decide_eq_false h3, Bool.false_or, decide_eq_true (by omega : s.top - t < 64), Bool.true_and, bit_or, hb, Bool.false_or, bit_two, decide_eq_false (by omega)]
        rfl
  · have : markP s n = s := by unfold markP; rw [if_neg hf]
    rw [this]
    exact h
/-- The receiver, of whose numbers some were received. -/
structure GOk (s0 : Ses) (G : List Bool) (T : Ses) : Prop where
  form : T = { s0 with top := T.top, seen := T.seen }
  valid : validP T = true
  fits : T.Fits
  t0 : 0 ≤ T.top
  t1 : T.top ≤ 12
  fresh : ∀ (j : Nat) (b : Bool), G[j]? = some b → freshP T ((j : Int) + 1) = !b
theorem GOk.start {s0 : Ses} (hv : validP s0 = true) (hf : s0.Fits) (ht : s0.top = 0) (n : Nat) (hn : n ≤ 12) : GOk s0 (List.replicate n false) s0 := by
  refine ⟨rfl, hv, hf, by omega, by omega, fun j b hj => ?_⟩
  obtain ⟨hjl, rfl⟩ := List.getElem?_eq_some_iff.1 hj
  rw [List.length_replicate] at hjl
  rw [List.getElem_replicate]
  unfold freshP
  rw [decide_eq_true (by omega : (1 : Int) ≤ (j : Int) + 1 ∧ (j : Int) + 1 ≤ 4294967296), decide_eq_true (by omega : s0.top < (j : Int) + 1)]
  rfl
theorem GOk.mark {s0 T : Ses} {G : List Bool} (h : GOk s0 G T) (k : Nat) (hk : k < G.length) (hn : G.length ≤ 12) : GOk s0 (G.set k true) (markP T ((k : Int) + 1)) := by
  have hv := mark_valid T ((k : Int) + 1) h.valid
  refine ⟨?_, hv, mark_fits h.fits _ (by omega), ?_, mark_top_le T _ 12 h.t1 (by omega), fun j b hj => ?_⟩
  · have e := mark_parts T ((k : Int) + 1)
    generalize markP T ((k : Int) + 1) = M at *
    have f := h.form
    obtain ⟨a0, a1, a2, a3, a4, a5, a6⟩ := M
    obtain ⟨b0, b1, b2, b3, b4, b5, b6⟩ := T
    simp only [Ses.mk.injEq] at e f ⊢
    obtain ⟨e0, e1, e2, e3, e4, _, _⟩ := e
    obtain ⟨f0, f1, f2, f3, f4, _, _⟩ := f
    exact ⟨e0.trans f0, e1.trans f1, e2.trans f2, e3.trans f3, e4.trans f4, trivial, trivial⟩
  · exact (valid_parts hv).2.2.2.2.2.2.2.2.1
  · by_cases hjk : j = k
    · subst hjk
      rw [List.getElem?_set_self hk] at hj
      cases hj
      exact mark_not_fresh T _
    · rw [List.getElem?_set_ne (by omega)] at hj
      have hl := (List.getElem?_eq_some_iff.1 hj).1
      have hfr := h.fresh j b hj
      cases b with
      | true => exact stale_stays T _ _ h.t0 hfr
      | false => exact fresh_keeps T _ _ h.t0 (by have := h.t1; omega) (by omega) (by omega) (by omega) hfr
/-- A message of the sender. -/
def msgOf (s0 : Ses) (k : Nat) (t : ByteArray) : Msg := ⟨s0.id, (k : Int) + 1, sealP { s0 with side := 3 - s0.side, sent := (k : Int) } t⟩
def fromS (s0 : Ses) (k : Nat) : Ses := { s0 with side := 3 - s0.side, sent := (k : Int) }
theorem send_step (s0 : Ses) (k : Nat) (t : ByteArray) (hv : validP s0 = true) (hk : k ≤ 100) : sendP (fromS s0 k) t = (fromS s0 (k + 1), msgOf s0 k t, 0) := by
  have h := peer_send s0 t k hv (by omega)
  exact h
theorem GOk.recv {s0 T : Ses} {G : List Bool} (h : GOk s0 G T) (k : Nat) (b : Bool) (hk : G[k]? = some b) (t : ByteArray) :
    receiveP T (msgOf s0 k t) = if b then (noSes, noT, 17) else (markP T ((k : Int) + 1), t, 0) := by
  have hv := h.valid
  rw [h.form] at hv
  have e := peer_recv s0 t k T.top T.seen hv
  rw [← h.form] at e
  have hf := h.fresh k b hk
  unfold msgOf
  rw [e, hf]
  cases b <;> rfl
theorem from_fits {s0 : Ses} (h : s0.Fits) (hs : s0.side = 1 ∨ s0.side = 2) (k : Nat) (hk : k ≤ 100) : (fromS s0 k).Fits := by
  obtain ⟨f1, f2, f3, f4, f5, f6, f7⟩ := h
  exact ⟨f1, f2, by show _ ≤ 3 - s0.side ∧ 3 - s0.side < _; omega, by show _ ≤ (k : Int) ∧ (k : Int) < _; omega, f5, f6, f7⟩
/-- The messages as cells. -/
def rowsM (s0 : Ses) (l : List ByteArray) (n : Nat) : List Value := (List.range n).flatMap fun j => msgC (msgOf s0 j (l.getD j noT))
theorem rowsM_succ (s0 : Ses) (l : List ByteArray) (n : Nat) : rowsM s0 l (n + 1) = rowsM s0 l n ++ msgC (msgOf s0 n (l.getD n noT)) := by
  unfold rowsM
  rw [List.range_succ, List.flatMap_append]
  simp
theorem rowsM_len (s0 : Ses) (l : List ByteArray) : ∀ n, (rowsM s0 l n).length = 3 * n
  | 0 => rfl
  | n + 1 => by rw [rowsM_succ, List.length_append, rowsM_len s0 l n]; show 3 * n + 3 = _; omega
theorem rowsM_at (s0 : Ses) (l : List ByteArray) (k i : Nat) (hi : i < 3) : ∀ n, k < n → (rowsM s0 l n)[3 * k + i]? = (msgC (msgOf s0 k (l.getD k noT)))[i]?
  | 0, h => absurd h (Nat.not_lt_zero _)
  | n + 1, h => by
    rw [rowsM_succ]
    by_cases hk : k < n
    · rw [List.getElem?_append_left (by rw [rowsM_len]; omega)]
      exact rowsM_at s0 l k i hi n hk
    · have e : k = n := by omega
      subst e
      rw [List.getElem?_append_right (by rw [rowsM_len]; omega), rowsM_len, show 3 * k + i - 3 * k = i by omega]
end Go.Proofs.YtbhagfdkipgggaaDoor
