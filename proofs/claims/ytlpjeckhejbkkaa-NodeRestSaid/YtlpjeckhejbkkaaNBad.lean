import Derived.Test.YtlpjeckhejbkkaaNLaw
set_option linter.unusedVariables false
set_option linter.unusedSimpArgs false
set_option maxRecDepth 20000
set_option maxHeartbeats 400000
namespace Go.Proofs.Ytlpjeckhejbkkaa
open Go.RowKit

set_option linter.unusedSectionVars false
/-- where something is wrong lies within the bytes; what is wrong has a number -/
def BL {α : Type} (r : Rd α) (L pos : Nat) : Prop := pos ≤ L → (∀ w a, r = .bad w a → a ≤ L ∧ 0 < w) ∧ (∀ v p, r = .ok v p → pos ≤ p ∧ p ≤ L)
theorem BL.ok {α : Type} (v : α) (L p : Nat) : BL (.ok v p) L p := fun hp => ⟨fun w a h => (by cases h), fun v' p' h => by cases h; exact ⟨Nat.le_refl _, hp⟩⟩
theorem BL.bad {α : Type} {w a L pos : Nat} (ha : pos ≤ L → a ≤ L) (hw : 0 < w) : BL (.bad w a : Rd α) L pos := fun hp => ⟨fun w' a' h => by cases h; exact ⟨ha hp, hw⟩, fun v' p' h => by cases h⟩
theorem BL.bind {α β : Type} {r : Rd α} {g : α → Nat → Rd β} {L pos : Nat} (h : BL r L pos) (hg : ∀ v q, r = .ok v q → pos ≤ q → q ≤ L → BL (g v q) L q) : BL (r.bind g) L pos := by
  intro hp
  obtain ⟨h1, h2⟩ := h hp
  cases r with
  | bad w a => exact ⟨fun w' a' hh => by cases hh; exact h1 _ _ rfl, fun v p hh => by cases hh⟩
  | ok v q =>
    obtain ⟨k1, k2⟩ := h2 v q rfl
    obtain ⟨j1, j2⟩ := hg v q rfl k1 k2 k2
    exact ⟨j1, fun u p hh => by obtain ⟨m1, m2⟩ := j2 u p hh; exact ⟨by omega, m2⟩⟩
theorem BL.ite {α : Type} {c : Prop} [Decidable c] {r s : Rd α} {L pos : Nat} (h : c → BL r L pos) (k : ¬ c → BL s L pos) : BL (if c then r else s) L pos := by
  by_cases hc : c
  · rw [if_pos hc]; exact h hc
  · rw [if_neg hc]; exact k hc
variable (xs : Bytes)
theorem bl_raw (pos k : Nat) : BL (rdRaw xs pos k) xs.length pos := by
  unfold rdRaw
  exact BL.ite (fun _ => BL.bad id (by decide)) (fun h hp => ⟨fun w a hh => (by cases hh), fun v p hh => by cases hh; omega⟩)
theorem bl_byte (pos : Nat) : BL (rdByte xs pos) xs.length pos := by
  unfold rdByte
  split
  · exact fun hp => ⟨fun w a hh => (by cases hh), fun v p hh => by cases hh; omega⟩
  · exact BL.bad id (by decide)
theorem numAt_why (bs : Bytes) : ∀ i acc, (numAt i acc bs).2.2 = 0 ∨ 0 < (numAt i acc bs).2.2 := fun i acc => by omega
theorem bl_num (pos most : Nat) : BL (rdNum xs pos most) xs.length pos := by
  intro hp
  refine ⟨fun w a h => ?_, fun v p h => ?_⟩
  · unfold rdNum at h
    simp only at h
    split at h
    · split at h
      · cases h; exact ⟨hp, by decide⟩
      · cases h
    · cases h
      exact ⟨hp, by omega⟩
  · have := rdNum_ok h hp
    omega
theorem bl_hash (pos : Nat) : BL (rdHash xs pos) xs.length pos := by
  unfold rdHash
  split
  · exact fun hp => ⟨fun w a hh => (by cases hh), fun v p hh => by cases hh; omega⟩
  · exact BL.bad id (by decide)
theorem bl_text (pos : Nat) : BL (rdText xs pos) xs.length pos := by
  unfold rdText rdBytes
  exact ((bl_num xs pos _).bind fun n q _ _ _ => bl_raw xs q n).bind fun _ _ _ _ _ => BL.ok _ _ _
theorem bl_signed (pos : Nat) : BL (rdSigned xs pos) xs.length pos := by
  unfold rdSigned
  exact (bl_num xs pos _).bind fun _ _ _ _ _ => BL.ok _ _ _
theorem bl_at (pos : Nat) : BL (rdAt xs pos) xs.length pos := by
  unfold rdAt
  exact (bl_num xs pos _).bind fun n q _ _ _ => BL.ite (fun _ => BL.ok _ _ _) (fun _ => (bl_hash xs q).bind fun _ _ _ _ _ => BL.ok _ _ _)
theorem bl_op (pos : Nat) (done : List GOp) (hpos : pos ≤ xs.length) : BL (rdOp xs pos done) xs.length pos := by
  unfold rdOp
  refine (bl_byte xs pos).bind fun k p1 _ _ _ => BL.ite (fun _ => BL.bad (fun _ => hpos) (by decide)) (fun _ => ?_)
  refine (bl_text xs p1).bind fun key p2 _ _ _ => ?_
  refine BL.bind (BL.ite (fun _ => bl_text xs p2) (fun _ => BL.ok _ _ _)) fun text p3 _ _ _ => ?_
  refine BL.bind (BL.ite (fun _ => bl_signed xs p3) (fun _ => BL.ok _ _ _)) fun m p4 _ _ h4 => ?_
  exact BL.ite (fun _ => (bl_at xs p4).bind fun a p5 _ _ _ => BL.ite (fun _ => BL.ok _ _ _) (fun _ => BL.bad (fun _ => h4) (by decide))) (fun _ => BL.ok _ _ _)
theorem bl_list (k : Nat) : ∀ (pos : Nat) (done : List GOp), pos ≤ xs.length → BL (rdList xs k pos done) xs.length pos := by
  induction k with
  | zero => intro pos done _; exact BL.ok _ _ _
  | succ k ih => intro pos done hp; exact (bl_op xs pos done hp).bind fun o p _ _ h => ih p _ h
theorem bl_ops (pos : Nat) : BL (rdOps xs pos) xs.length pos := by
  unfold rdOps
  exact (bl_num xs pos _).bind fun v q _ _ h => bl_list xs v q [] h
theorem bl_hashes (k : Nat) : ∀ (pos : Nat) (done : List GHash), pos ≤ xs.length → BL (rdHashes xs k pos done) xs.length pos := by
  induction k with
  | zero => intro pos done _; exact BL.ok _ _ _
  | succ k ih => intro pos done hp; exact (bl_hash xs pos).bind fun h p _ _ hq => BL.ite (fun _ => ih p _ hq) (fun _ => BL.bad (fun _ => hp) (by decide))
theorem bl_node0 : BL (rdNode0 xs 0) xs.length 0 := by
  unfold rdNode0
  refine (bl_byte xs 0).bind fun form p1 e1 _ h1 => BL.ite (fun _ => ?_) (fun _ => BL.bad (fun _ => Nat.zero_le _) (by decide))
  obtain ⟨_, b2, _⟩ := rdByte_cut e1
  refine (bl_byte xs p1).bind fun au p2 e2 _ h2 => ?_
  obtain ⟨_, c2, _⟩ := rdByte_cut e2
  refine BL.ite (fun _ => ?_) (fun _ => BL.bad (fun _ => by omega) (by decide))
  refine (bl_num xs p2 _).bind fun clock p3 _ _ _ => BL.ite (fun _ => BL.bad (fun _ => by omega) (by decide)) (fun _ => ?_)
  refine (bl_num xs p3 _).bind fun many p4 _ _ h4 => BL.ite (fun _ => ?_) (fun _ => BL.bad (fun _ => by omega) (by decide))
  exact (bl_hashes xs many p4 [] h4).bind fun ps p5 _ _ _ => (bl_ops xs p5).bind fun ops p6 _ _ _ => BL.ok _ _ _
theorem node_bad {w a : Nat} (h : rdNode xs = .bad w a) : a ≤ xs.length ∧ 0 < w := by
  unfold rdNode at h
  by_cases hz : 1048576 < xs.length
  · rw [if_pos hz] at h
    cases h
    exact ⟨by omega, by decide⟩
  · rw [if_neg hz] at h
    have hb := (bl_node0 xs).bind (g := fun n p => if p < xs.length then .bad 23 p else .ok n p) fun n p _ _ hp => BL.ite (fun _ => BL.bad (fun _ => hp) (by decide)) (fun _ => BL.ok _ _ _)
    exact (hb (Nat.zero_le _)).1 w a h
end Go.Proofs.Ytlpjeckhejbkkaa
