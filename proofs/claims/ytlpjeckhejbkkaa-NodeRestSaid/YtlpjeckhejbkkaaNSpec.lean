import Derived.Test.YtlpjeckhejbkkaaShortLaw
set_option linter.unusedVariables false
set_option linter.unusedSimpArgs false
set_option maxRecDepth 20000
set_option maxHeartbeats 400000
namespace Go.Proofs.Ytlpjeckhejbkkaa
open Go.RowKit

set_option linter.unusedSectionVars false
/-! ### transactions: the plain functions and their plain laws -/
def cmpB : Bytes → Bytes → Int
  | a :: r, b :: s => if a < b then -1 else if b < a then 1 else cmpB r s
  | _, _ => 0
def risesTo (done : List GHash) (h : GHash) : Bool :=
  match done.getLast? with
  | some g => decide (cmpB g.l h.l < 0)
  | none => true
def risingFrom (done : List GHash) : List GHash → Bool
  | [] => true
  | h :: r => risesTo done h && risingFrom (done ++ [h]) r
structure GNode where
  author : Int
  clock : Int
  parents : List GHash
  ops : List GOp
def checkNode (n : GNode) : Nat :=
  if n.author < 1 ∨ 8 < n.author then 50
  else if n.clock < 1 ∨ 4096 < n.clock ∨ decide (n.clock = 1) ≠ decide (n.parents.length = 0) then 51
  else if 64 < n.parents.length ∨ risingFrom [] n.parents = false then 52
  else (checkOps n.ops).1
def nodeBlock (n : GNode) : Bytes :=
  1 :: UInt8.ofNat n.author.toNat :: (putNum n.clock.toNat ++ (putNum n.parents.length ++ (n.parents.flatMap GHash.l ++ putOps n.ops)))
def rdHashes (xs : Bytes) : Nat → Nat → List GHash → Rd (List GHash)
  | 0, pos, done => .ok done pos
  | k + 1, pos, done => (rdHash xs pos).bind fun h p => if risesTo done h then rdHashes xs k p (done ++ [h]) else .bad 52 pos
/-- all of a transaction but its end -/
def rdNode0 (xs : Bytes) (pos : Nat) : Rd GNode :=
  (rdByte xs pos).bind fun form p1 => if form = 1 then
    (rdByte xs p1).bind fun au p2 => if 1 ≤ au.toNat ∧ au.toNat ≤ 8 then
      (rdNum xs p2 4096).bind fun clock p3 => if clock = 0 then .bad 51 2 else
        (rdNum xs p3 64).bind fun many p4 => if decide (clock = 1) = decide (many = 0) then
          (rdHashes xs many p4 []).bind fun ps p5 => (rdOps xs p5).bind fun ops p6 => .ok ⟨au.toNat, clock, ps, ops⟩ p6
        else .bad 51 2
    else .bad 50 1
  else .bad 5 0
def rdNode (xs : Bytes) : Rd GNode :=
  if 1048576 < xs.length then .bad 4 1048576 else (rdNode0 xs 0).bind fun n p => if p < xs.length then .bad 23 p else .ok n p
theorem rp_hashes (l : List GHash) : ∀ (done : List GHash), risingFrom done l = true → RP (fun xs p => rdHashes xs l.length p done) (done ++ l) (l.flatMap GHash.l) := by
  induction l with
  | nil => intro done _ A C; simp [rdHashes]
  | cons h l ih =>
    intro done hr A C
    rw [risingFrom, Bool.and_eq_true] at hr
    show rdHashes _ (l.length + 1) _ _ = _
    unfold rdHashes
    rw [(rp_hash h).at_ (A := A) (C := l.flatMap GHash.l ++ C) (by simp) rfl]
    simp only [Rd.bind]
    rw [if_pos hr.1, (ih (done ++ [h]) hr.2).at_ (A := A ++ h.l) (C := C) (by simp) (by simp)]
    simp [Nat.add_assoc]
theorem rp_node {n : GNode} (h : checkNode n = 0) (hn : ∀ o ∈ n.ops, o.nums) : RP rdNode0 n (nodeBlock n) := by
  unfold checkNode at h
  by_cases h1 : n.author < 1 ∨ 8 < n.author
  · rw [if_pos h1] at h; cases h
  rw [if_neg h1] at h
  by_cases h2 : n.clock < 1 ∨ 4096 < n.clock ∨ decide (n.clock = 1) ≠ decide (n.parents.length = 0)
  · rw [if_pos h2] at h; cases h
  rw [if_neg h2] at h
  by_cases h3 : 64 < n.parents.length ∨ risingFrom [] n.parents = false
  · rw [if_pos h3] at h; cases h
  rw [if_neg h3] at h
  have hc : 1 ≤ n.clock ∧ n.clock ≤ 4096 := by omega
  have hd : decide (n.clock = 1) = decide (n.parents.length = 0) := by
    by_cases hx : decide (n.clock = 1) = decide (n.parents.length = 0)
    · exact hx
    · exact absurd (Or.inr (Or.inr hx)) h2
  have hr : risingFrom [] n.parents = true := by
    cases hx : risingFrom [] n.parents with
    | true => rfl
    | false => exact absurd (Or.inr hx) h3
  have hp : n.parents.length ≤ 64 := by omega
  intro A C
  obtain ⟨au, hau⟩ : ∃ au, UInt8.ofNat n.author.toNat = au := ⟨_, rfl⟩
  have hat : au.toNat = n.author.toNat := by rw [← hau]; simp; omega
  unfold nodeBlock rdNode0
  rw [hau]
  rw [(rp_byte 1).at_ (A := A) (C := au :: (putNum n.clock.toNat ++ (putNum n.parents.length ++ (n.parents.flatMap GHash.l ++ putOps n.ops))) ++ C) (by simp) rfl]
  simp only [Rd.bind]
  rw [if_pos trivial]
  rw [(rp_byte au).at_ (A := A ++ [1]) (C := putNum n.clock.toNat ++ (putNum n.parents.length ++ (n.parents.flatMap GHash.l ++ putOps n.ops)) ++ C) (by simp) (by simp)]
  simp only
  rw [if_pos (by omega)]
  rw [(rp_num (x := n.clock.toNat) (most := 4096) (by omega) (by omega)).at_ (A := A ++ [1] ++ [au]) (C := putNum n.parents.length ++ (n.parents.flatMap GHash.l ++ putOps n.ops) ++ C) (by simp) (by simp)]
  simp only
  rw [if_neg (by omega)]
  rw [(rp_num (x := n.parents.length) (most := 64) (by omega) (by omega)).at_ (A := A ++ [1] ++ [au] ++ putNum n.clock.toNat) (C := n.parents.flatMap GHash.l ++ putOps n.ops ++ C) (by simp) (by simp; omega)]
  simp only
  rw [if_pos (by rw [← hd]; congr 1; simp; omega)]
  rw [(rp_hashes n.parents [] hr).at_ (A := A ++ [1] ++ [au] ++ putNum n.clock.toNat ++ putNum n.parents.length) (C := putOps n.ops ++ C) (by simp) (by simp; omega)]
  simp only
  rw [(rp_ops h hn).at_ (A := A ++ [1] ++ [au] ++ putNum n.clock.toNat ++ putNum n.parents.length ++ n.parents.flatMap GHash.l) (C := C) (by simp) (by simp; omega)]
  simp only [Rd.ok.injEq]
  refine ⟨?_, by simp; omega⟩
  cases n with
  | mk a c ps os =>
    simp only at *
    congr 1 <;> omega
section
variable {xs : Bytes} {n : Nat} (hn : n ≤ xs.length)
include hn
theorem cp_hashes (k : Nat) : ∀ (pos : Nat) (done : List GHash), CP (rdHashes xs k pos done) (rdHashes (xs.take n) k pos done) xs.length pos n := by
  induction k with
  | zero => intro pos done; exact CP.ok _ _ _ _
  | succ k ih => intro pos done; exact (cp_hash hn pos).bind fun h p => CP.ite (fun _ => ih p _) (fun _ => CP.bad _ _ _ _ _ _)
theorem cp_node (pos : Nat) : CP (rdNode0 xs pos) (rdNode0 (xs.take n) pos) xs.length pos n := by
  unfold rdNode0
  refine (cp_byte hn pos).bind fun form p1 => CP.ite (fun _ => ?_) (fun _ => CP.bad _ _ _ _ _ _)
  refine (cp_byte hn p1).bind fun au p2 => CP.ite (fun _ => ?_) (fun _ => CP.bad _ _ _ _ _ _)
  refine (cp_num hn p2 _).bind fun clock p3 => CP.ite (fun _ => CP.bad _ _ _ _ _ _) (fun _ => ?_)
  refine (cp_num hn p3 _).bind fun many p4 => CP.ite (fun _ => ?_) (fun _ => CP.bad _ _ _ _ _ _)
  exact (cp_hashes hn many p4 []).bind fun ps p5 => (cp_ops hn p5).bind fun ops p6 => CP.ok _ _ _ _
end
end Go.Proofs.Ytlpjeckhejbkkaa
