/-
  Layer 29 (session) in plain words: what is accepted was made by the other side.
-/
import Derived.Test.YtbhagfdkipgggaaDoorSanW4
import Derived.Test.YtbhagfdkipgggaaDoorSesP4
namespace Go.Proofs.YtbhagfdkipgggaaDoor
open Go.RowKit
theorem openL_len {k ad b t : List UInt8} {e : Nat} (h : openL k ad b = (t, e)) : t.length ≤ b.length := by
  unfold openL at h
  split at h
  · cases h; exact Nat.zero_le _
  · dsimp only at h
    split at h
    · split at h
      · cases h
        rw [xorL_len, List.length_take, List.length_drop]
        omega
      · cases h; exact Nat.zero_le _
    · cases h; exact Nat.zero_le _
/-- What was received was sent by the other side. -/
theorem receive_sent (s : Ses) (m : Msg) (h : (receiveP s m).2.2 = 0) :
    1 ≤ m.num ∧ m.num ≤ 4294967296 ∧ (s.side = 1 ∨ s.side = 2) ∧ validP s = true ∧ (receiveP s m).2.1.size ≤ m.text.size ∧ (sendP { s with side := 3 - s.side, sent := m.num - 1 } (receiveP s m).2.1).2 = (m, 0) := by
  unfold receiveP at h ⊢
  by_cases hv : validP s = true
  · rw [if_pos hv] at h ⊢
    by_cases hs : m.sess = s.id
    · rw [if_pos hs] at h ⊢
      by_cases hf : freshP s m.num = true
      · rw [if_pos hf] at h ⊢
        by_cases ho : (openP s m).2 = 0
        · rw [if_pos ho] at h ⊢
          have hn := fresh_parts hf
          obtain ⟨a1, a2, a3, a4, a5, a6, a7, a8, a9, a10⟩ := valid_parts hv
          dsimp only
          have hop : openL (bl s.key) (bl (ctxP s.id (3 - s.side) m.num)) (bl m.text) = ((openP s m).1, 0) := by
            rw [← ho]
            rfl
          refine ⟨hn.1, hn.2, a5, hv, ?_, ?_⟩
          · have := openL_len hop
            rw [txt_size]
            rw [bl_len] at this
            exact this
          · have hv2 : validP { s with side := 3 - s.side, sent := m.num - 1 } = true := by
              have h1 := validP_last s ⟨a1, a2, a3, a4⟩ ⟨a5, a6⟩ ⟨a7, a8, a9, a10⟩
              have hb : 0 ≤ m.num - 1 ∧ m.num - 1 ≤ 4294967296 ∧ 0 ≤ s.top ∧ s.top ≤ 4294967296 := ⟨by omega, by omega, a9, a10⟩
              have h2 := validP_last ⟨s.id, s.role, 3 - s.side, s.key, m.num - 1, s.top, s.seen⟩ ⟨a1, a2, a3, a4⟩ ⟨by dsimp only; omega, a6⟩ hb
              exact h2.trans (h1.symm.trans hv)
            unfold sendP
            rw [if_pos hv2]
            have hb : ¬ m.num - 1 = 4294967296 := by omega
            refine (congrArg Prod.snd (if_neg hb)).trans ?_
            dsimp only
            have e1 : m.num - 1 + 1 = m.num := by omega
            have e2 : sealP { s with side := 3 - s.side, sent := m.num - 1 } (txt (openP s m).1) = m.text := by
              unfold sealP
              dsimp only
              rw [e1, bl_txt, seal_open _ _ _ _ hop, txt_bl]
            rw [e1, e2, ← hs]
        · rw [if_neg ho] at h
          exact absurd h ho
      · rw [if_neg hf] at h
        cases h
    · rw [if_neg hs] at h
      cases h
  · rw [if_neg hv] at h
    cases h
theorem start_opens {s : ByteArray} {h : Hel} {id side : Int} {n : ByteArray} (hz : (startP s h id side n).2.2 = 0) : Opens s h.role h.nonce ∧ 1 ≤ id ∧ id ≤ 64 ∧ n.size = 16 := by
  unfold startP at hz
  split at hz
  · assumption
  · cases hz
/-- A hello that is accepted is the one that Greet makes. -/
theorem accept_greet (s : ByteArray) (h : Hel) (id : Int) (n : ByteArray) (he : (acceptP s h id n).2.2 = 0) : greetP s h.role h.nonce = (h, 0) := by
  unfold acceptP at he
  dsimp only at he
  by_cases hz : (startP s h id 2 n).2.2 = 0
  · rw [if_pos hz] at he
    by_cases ht : h.tag = txt (helloL (bl s) h.role.toNat (bl h.nonce))
    · unfold greetP
      rw [if_pos (start_opens hz).1, ← ht]
    · rw [if_neg ht] at he
      cases he
  · rw [if_neg hz] at he
    cases he
/-- A welcome that is accepted is the one that Accept makes. -/
theorem join_accept (s : ByteArray) (h : Hel) (w : Wel) (he : (joinP s h w).2 = 0) :
    ∃ (own : Hel) (S : Ses), greetP s h.role h.nonce = (own, 0) ∧ acceptP s own w.sess w.nonce = (S, w, 0) := by
  unfold joinP at he
  dsimp only at he
  by_cases hz : (startP s h w.sess 1 w.nonce).2.2 = 0
  · rw [if_pos hz] at he
    by_cases ht : w.tag = (startP s h w.sess 1 w.nonce).2.1
    · have ho := start_opens hz
      refine ⟨⟨h.role, h.nonce, txt (helloL (bl s) h.role.toNat (bl h.nonce))⟩, ⟨w.sess, h.role, 2, txt (skeyL (bl s) h.role.toNat w.sess.toNat h.nonce w.nonce), 0, 0, 0⟩, ?_, ?_⟩
      · unfold greetP
        rw [if_pos ho.1]
      · have e1 : startP s ⟨h.role, h.nonce, txt (helloL (bl s) h.role.toNat (bl h.nonce))⟩ w.sess 2 w.nonce = (⟨w.sess, h.role, 2, txt (skeyL (bl s) h.role.toNat w.sess.toNat h.nonce w.nonce), 0, 0, 0⟩, txt (welcomeL (skeyL (bl s) h.role.toNat w.sess.toNat h.nonce w.nonce)), 0) := by
          unfold startP
          exact if_pos ho
        have e2 : (startP s h w.sess 1 w.nonce).2.1 = txt (welcomeL (skeyL (bl s) h.role.toNat w.sess.toNat h.nonce w.nonce)) := by
          unfold startP
          rw [if_pos ho]
        unfold acceptP
        dsimp only
        rw [e1]
        dsimp only
        rw [if_pos rfl, if_pos rfl, ← e2, ← ht]
    · rw [if_neg ht] at he
      cases he
  · rw [if_neg hz] at he
    cases he
end Go.Proofs.YtbhagfdkipgggaaDoor
