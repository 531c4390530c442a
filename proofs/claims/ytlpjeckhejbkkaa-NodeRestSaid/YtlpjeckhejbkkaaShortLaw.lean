import Derived.Test.YtlpjeckhejbkkaaBackLaw
set_option linter.unusedVariables false
set_option linter.unusedSimpArgs false
set_option maxRecDepth 20000
set_option maxHeartbeats 400000
namespace Go.Proofs.Ytlpjeckhejbkkaa
open Go.RowKit

set_option linter.unusedSectionVars false
/-- a reading, and the same of a beginning of the bytes -/
def CP {α : Type} (r r' : Rd α) (L pos n : Nat) : Prop := ∀ v p, r = .ok v p → pos ≤ L → (pos ≤ p ∧ p ≤ L) ∧ (pos ≤ n → (p ≤ n → r' = .ok v p) ∧ (n < p → ∃ a, a ≤ n ∧ r' = .bad 20 a))
theorem CP.ok {α : Type} (v : α) (L p n : Nat) : CP (.ok v p) (.ok v p) L p n := by
  intro v' p' h hp
  cases h
  exact ⟨⟨Nat.le_refl _, hp⟩, fun h1 => ⟨fun _ => rfl, fun h2 => absurd h1 (by omega)⟩⟩
theorem CP.bad {α : Type} (w a : Nat) (r' : Rd α) (L p n : Nat) : CP (.bad w a) r' L p n := by
  intro v' p' h
  cases h
theorem CP.bind {α β : Type} {r r' : Rd α} {g g' : α → Nat → Rd β} {L pos n : Nat} (h : CP r r' L pos n) (hg : ∀ v q, CP (g v q) (g' v q) L q n) : CP (r.bind g) (r'.bind g') L pos n := by
  intro u p hu hp
  cases r with
  | bad w a => cases hu
  | ok v q =>
    obtain ⟨⟨h1, h2⟩, h3⟩ := h v q rfl hp
    obtain ⟨⟨k1, k2⟩, k3⟩ := hg v q u p hu h2
    refine ⟨⟨by omega, k2⟩, fun hn => ?_⟩
    rcases Nat.lt_or_ge n q with hq | hq
    · obtain ⟨a, ha, hr⟩ := (h3 hn).2 hq
      exact ⟨fun h4 => absurd h4 (by omega), fun _ => ⟨a, ha, by rw [hr]; rfl⟩⟩
    · rw [(h3 hn).1 hq]
      exact k3 hq
theorem CP.ite {α : Type} {c : Prop} [Decidable c] {r r' s s' : Rd α} {L pos n : Nat} (h : c → CP r r' L pos n) (k : ¬ c → CP s s' L pos n) : CP (if c then r else s) (if c then r' else s') L pos n := by
  by_cases hc : c
  · rw [if_pos hc, if_pos hc]; exact h hc
  · rw [if_neg hc, if_neg hc]; exact k hc
section
variable {xs : Bytes} {n : Nat} (hn : n ≤ xs.length)
include hn
theorem cp_raw (pos k : Nat) : CP (rdRaw xs pos k) (rdRaw (xs.take n) pos k) xs.length pos n := by
  have hl : (xs.take n).length = n := by simp; omega
  intro v p h hp
  unfold rdRaw at h ⊢
  split at h
  · cases h
  · cases h
    rw [hl]
    refine ⟨⟨by omega, by omega⟩, fun h1 => ⟨fun h2 => ?_, fun h2 => ⟨pos, h1, by rw [if_pos h2]⟩⟩⟩
    rw [if_neg (by omega), List.drop_take, List.take_take, Nat.min_eq_left (by omega)]
theorem cp_byte (pos : Nat) : CP (rdByte xs pos) (rdByte (xs.take n) pos) xs.length pos n := by
  have hl : (xs.take n).length = n := by simp; omega
  intro v p h hp
  unfold rdByte at h ⊢
  split at h
  · cases h
    refine ⟨⟨by omega, by omega⟩, fun h1 => ⟨fun h2 => ?_, fun h2 => ⟨pos, h1, by rw [dif_neg (by omega)]⟩⟩⟩
    rw [dif_pos (by omega)]
    simp
  · cases h
theorem cp_hash (pos : Nat) : CP (rdHash xs pos) (rdHash (xs.take n) pos) xs.length pos n := by
  rw [rdHash_raw, rdHash_raw]
  exact (cp_raw hn pos 32).bind fun v q => CP.ok _ _ _ _
end
theorem numAt_take (bs : Bytes) : ∀ (i acc x k m : Nat), numAt i acc bs = (x, k, 0) → i ≤ k ∧ (k - i ≤ m → numAt i acc (bs.take m) = (x, k, 0)) ∧ (m < k - i → (numAt i acc (bs.take m)).2.2 = 20) := by
  induction bs with
  | nil =>
    intro i acc x k m h
    rw [numAt] at h
    split at h <;> simp at h
  | cons c r ih =>
    intro i acc x k m h
    rw [numAt] at h
    by_cases h1 : 10 ≤ i
    · rw [if_pos h1] at h; simp at h
    rw [if_neg h1] at h
    by_cases h2 : i = 9 ∧ 1 < c.toNat
    · rw [if_pos h2] at h; simp at h
    rw [if_neg h2] at h
    by_cases h3 : c.toNat < 128
    · rw [if_pos h3] at h
      by_cases h4 : c.toNat = 0 ∧ 0 < i
      · rw [if_pos h4] at h; simp at h
      rw [if_neg h4] at h
      have hk : k = i + 1 := by simp at h; omega
      subst hk
      refine ⟨by omega, fun hm => ?_, fun hm => ?_⟩
      · obtain ⟨m', rfl⟩ : ∃ m', m = m' + 1 := ⟨m - 1, by omega⟩
        rw [List.take_succ_cons, numAt, if_neg h1, if_neg h2, if_pos h3, if_neg h4]
        exact h
      · have hm0 : m = 0 := by omega
        subst hm0
        rw [List.take_zero, numAt, if_neg h1]
    · rw [if_neg h3] at h
      obtain ⟨k1, k2, k3⟩ := ih (i + 1) _ x k (m - 1) h
      refine ⟨by omega, fun hm => ?_, fun hm => ?_⟩
      · by_cases hm0 : m = 0
        · subst hm0
          have : k = i := by omega
          omega
        · obtain ⟨m', rfl⟩ : ∃ m', m = m' + 1 := ⟨m - 1, by omega⟩
          rw [List.take_succ_cons, numAt, if_neg h1, if_neg h2, if_neg h3]
          exact k2 (by omega)
      · by_cases hm0 : m = 0
        · subst hm0
          rw [List.take_zero, numAt, if_neg h1]
        · obtain ⟨m', rfl⟩ : ∃ m', m = m' + 1 := ⟨m - 1, by omega⟩
          rw [List.take_succ_cons, numAt, if_neg h1, if_neg h2, if_neg h3]
          exact k3 (by omega)
section
variable {xs : Bytes} {n : Nat} (hn : n ≤ xs.length)
include hn
theorem cp_num (pos most : Nat) : CP (rdNum xs pos most) (rdNum (xs.take n) pos most) xs.length pos n := by
  intro v p h hp
  have hr := rdNum_ok h hp
  unfold rdNum at h ⊢
  rw [List.drop_take]
  rcases ht : numAt 0 0 (xs.drop pos) with ⟨x, k, e⟩
  rw [ht] at h
  simp only at h
  by_cases he : e = 0
  · subst he
    rw [if_pos rfl] at h
    by_cases hm : most < x
    · rw [if_pos hm] at h; cases h
    · rw [if_neg hm] at h
      cases h
      obtain ⟨_, k2, k3⟩ := numAt_take (xs.drop pos) 0 0 _ _ (n - pos) ht
      refine ⟨⟨by omega, hr.2.2.1⟩, fun h1 => ⟨fun h2 => ?_, fun h2 => ⟨pos, h1, ?_⟩⟩⟩
      · rw [k2 (by omega)]
        simp only
        rw [if_pos trivial, if_neg hm]
      · have k3' := k3 (by omega)
        simp only [k3']
        rw [if_neg (by omega)]
  · rw [if_neg he] at h; cases h
theorem cp_text (pos : Nat) : CP (rdText xs pos) (rdText (xs.take n) pos) xs.length pos n := by
  unfold rdText rdBytes
  exact ((cp_num hn pos 65536).bind fun v q => cp_raw hn q v).bind fun v q => CP.ok _ _ _ _
theorem cp_signed (pos : Nat) : CP (rdSigned xs pos) (rdSigned (xs.take n) pos) xs.length pos n := by
  unfold rdSigned
  exact (cp_num hn pos _).bind fun v q => CP.ok _ _ _ _
theorem cp_at (pos : Nat) : CP (rdAt xs pos) (rdAt (xs.take n) pos) xs.length pos n := by
  unfold rdAt
  exact (cp_num hn pos _).bind fun v q => CP.ite (fun _ => CP.ok _ _ _ _) (fun _ => (cp_hash hn q).bind fun v q => CP.ok _ _ _ _)
theorem cp_op (pos : Nat) (done : List GOp) : CP (rdOp xs pos done) (rdOp (xs.take n) pos done) xs.length pos n := by
  unfold rdOp
  refine (cp_byte hn pos).bind fun k p1 => CP.ite (fun _ => CP.bad _ _ _ _ _ _) (fun _ => ?_)
  refine (cp_text hn p1).bind fun key p2 => ?_
  refine CP.bind (CP.ite (fun _ => cp_text hn p2) (fun _ => CP.ok _ _ _ _)) fun text p3 => ?_
  refine CP.bind (CP.ite (fun _ => cp_signed hn p3) (fun _ => CP.ok _ _ _ _)) fun m p4 => ?_
  exact CP.ite (fun _ => (cp_at hn p4).bind fun a p5 => CP.ite (fun _ => CP.ok _ _ _ _) (fun _ => CP.bad _ _ _ _ _ _)) (fun _ => CP.ok _ _ _ _)
theorem cp_list (k : Nat) : ∀ (pos : Nat) (done : List GOp), CP (rdList xs k pos done) (rdList (xs.take n) k pos done) xs.length pos n := by
  induction k with
  | zero => intro pos done; exact CP.ok _ _ _ _
  | succ k ih => intro pos done; exact (cp_op hn pos done).bind fun o p => ih p _
theorem cp_ops (pos : Nat) : CP (rdOps xs pos) (rdOps (xs.take n) pos) xs.length pos n := by
  unfold rdOps
  exact (cp_num hn pos _).bind fun v q => cp_list hn v q []
end
/-- each beginning of what was laid is short -/
theorem short_law {l : List GOp} (h0 : (checkOps l).1 = 0) (hl : ∀ o ∈ l, o.nums) {n : Nat} (hn : n < (putOps l).length) : ∃ a, a ≤ n ∧ rdOps ((putOps l).take n) 0 = .bad 20 a := by
  have h := (rp_ops h0 hl).at_ (xs := putOps l) (A := []) (C := []) (by simp) (p := 0) rfl
  obtain ⟨_, h2⟩ := cp_ops (n := n) (by omega) 0 l _ h (by omega)
  exact (h2 (by omega)).2 (by omega)
end Go.Proofs.Ytlpjeckhejbkkaa
