import Derived.Test.YtlpjeckhejbkkaaG3
import Derived.Lib.Bytealg
import Derived.Defers
import Derived.Recover
import Derived.WalkKit
import Derived.ProofKit
import Derived.OpenShut
import Derived.ShutString
import Derived.ChangeOld
import Derived.Below
import Derived.SizedLaws
section
set_option linter.unusedVariables false
set_option linter.unusedSimpArgs false
set_option maxRecDepth 20000
set_option maxHeartbeats 400000
namespace Go.Proofs.Ytlpjeckhejbkkaa
open Go.RowKit

set_option linter.unusedSectionVars false
/-! ### transactions: the plain functions and their plain laws -/
def cmpB : Bytes → Bytes → Int
  | a :: r, b :: s => if a < b then -1 else if b < a then 1 else cmpB r s
  | _, _ => 0
def risesTo (done : List GHash) (h : GHash) : Bool :=
  match done.getLast? with
  | some g => decide (cmpB g.l h.l < 0)
  | none => true
def risingFrom (done : List GHash) : List GHash → Bool
  | [] => true
  | h :: r => risesTo done h && risingFrom (done ++ [h]) r
structure GNode where
  author : Int
  clock : Int
  parents : List GHash
  ops : List GOp
def checkNode (n : GNode) : Nat :=
  if n.author < 1 ∨ 8 < n.author then 50
  else if n.clock < 1 ∨ 4096 < n.clock ∨ decide (n.clock = 1) ≠ decide (n.parents.length = 0) then 51
  else if 64 < n.parents.length ∨ risingFrom [] n.parents = false then 52
  else (checkOps n.ops).1
def nodeBlock (n : GNode) : Bytes :=
  1 :: UInt8.ofNat n.author.toNat :: (putNum n.clock.toNat ++ (putNum n.parents.length ++ (n.parents.flatMap GHash.l ++ putOps n.ops)))
def rdHashes (xs : Bytes) : Nat → Nat → List GHash → Rd (List GHash)
  | 0, pos, done => .ok done pos
  | k + 1, pos, done => (rdHash xs pos).bind fun h p => if risesTo done h then rdHashes xs k p (done ++ [h]) else .bad 52 pos
/-- all of a transaction but its end -/
def rdNode0 (xs : Bytes) (pos : Nat) : Rd GNode :=
  (rdByte xs pos).bind fun form p1 => if form = 1 then
    (rdByte xs p1).bind fun au p2 => if 1 ≤ au.toNat ∧ au.toNat ≤ 8 then
      (rdNum xs p2 4096).bind fun clock p3 => if clock = 0 then .bad 51 2 else
        (rdNum xs p3 64).bind fun many p4 => if decide (clock = 1) = decide (many = 0) then
          (rdHashes xs many p4 []).bind fun ps p5 => (rdOps xs p5).bind fun ops p6 => .ok ⟨au.toNat, clock, ps, ops⟩ p6
        else .bad 51 2
    else .bad 50 1
  else .bad 5 0
def rdNode (xs : Bytes) : Rd GNode :=
  if 1048576 < xs.length then .bad 4 1048576 else (rdNode0 xs 0).bind fun n p => if p < xs.length then .bad 23 p else .ok n p
theorem rp_hashes (l : List GHash) : ∀ (done : List GHash), risingFrom done l = true → RP (fun xs p => rdHashes xs l.length p done) (done ++ l) (l.flatMap GHash.l) := by
  induction l with
  | nil => intro done _ A C; simp [rdHashes]
  | cons h l ih =>
    intro done hr A C
    rw [risingFrom, Bool.and_eq_true] at hr
    show rdHashes _ (l.length + 1) _ _ = _
    unfold rdHashes
    rw [(rp_hash h).at_ (A := A) (C := l.flatMap GHash.l ++ C) (by simp) rfl]
    simp only [Rd.bind]
    rw [if_pos hr.1, (ih (done ++ [h]) hr.2).at_ (A := A ++ h.l) (C := C) (by simp) (by simp)]
    simp [Nat.add_assoc]
theorem rp_node {n : GNode} (h : checkNode n = 0) (hn : ∀ o ∈ n.ops, o.nums) : RP rdNode0 n (nodeBlock n) := by
  unfold checkNode at h
  by_cases h1 : n.author < 1 ∨ 8 < n.author
  · rw [if_pos h1] at h; cases h
  rw [if_neg h1] at h
  by_cases h2 : n.clock < 1 ∨ 4096 < n.clock ∨ decide (n.clock = 1) ≠ decide (n.parents.length = 0)
  · rw [if_pos h2] at h; cases h
  rw [if_neg h2] at h
  by_cases h3 : 64 < n.parents.length ∨ risingFrom [] n.parents = false
  · rw [if_pos h3] at h; cases h
  rw [if_neg h3] at h
  have hc : 1 ≤ n.clock ∧ n.clock ≤ 4096 := by omega
  have hd : decide (n.clock = 1) = decide (n.parents.length = 0) := by
    by_cases hx : decide (n.clock = 1) = decide (n.parents.length = 0)
    · exact hx
    · exact absurd (Or.inr (Or.inr hx)) h2
  have hr : risingFrom [] n.parents = true := by
    cases hx : risingFrom [] n.parents with
    | true => rfl
    | false => exact absurd (Or.inr hx) h3
  have hp : n.parents.length ≤ 64 := by omega
  intro A C
  obtain ⟨au, hau⟩ : ∃ au, UInt8.ofNat n.author.toNat = au := ⟨_, rfl⟩
  have hat : au.toNat = n.author.toNat := by rw [← hau]; simp; omega
  unfold nodeBlock rdNode0
  rw [hau]
  rw [(rp_byte 1).at_ (A := A) (C := au :: (putNum n.clock.toNat ++ (putNum n.parents.length ++ (n.parents.flatMap GHash.l ++ putOps n.ops))) ++ C) (by simp) rfl]
  simp only [Rd.bind]
  rw [if_pos trivial]
  rw [(rp_byte au).at_ (A := A ++ [1]) (C := putNum n.clock.toNat ++ (putNum n.parents.length ++ (n.parents.flatMap GHash.l ++ putOps n.ops)) ++ C) (by simp) (by simp)]
  simp only
  rw [if_pos (by omega)]
  rw [(rp_num (x := n.clock.toNat) (most := 4096) (by omega) (by omega)).at_ (A := A ++ [1] ++ [au]) (C := putNum n.parents.length ++ (n.parents.flatMap GHash.l ++ putOps n.ops) ++ C) (by simp) (by simp)]
  simp only
  rw [if_neg (by omega)]
  rw [(rp_num (x := n.parents.length) (most := 64) (by omega) (by omega)).at_ (A := A ++ [1] ++ [au] ++ putNum n.clock.toNat) (C := n.parents.flatMap GHash.l ++ putOps n.ops ++ C) (by simp) (by simp; omega)]
  simp only
  rw [if_pos (by rw [← hd]; congr 1; simp; omega)]
  rw [(rp_hashes n.parents [] hr).at_ (A := A ++ [1] ++ [au] ++ putNum n.clock.toNat ++ putNum n.parents.length) (C := putOps n.ops ++ C) (by simp) (by simp; omega)]
  simp only
  rw [(rp_ops h hn).at_ (A := A ++ [1] ++ [au] ++ putNum n.clock.toNat ++ putNum n.parents.length ++ n.parents.flatMap GHash.l) (C := C) (by simp) (by simp; omega)]
  simp only [Rd.ok.injEq]
  refine ⟨?_, by simp; omega⟩
  cases n with
  | mk a c ps os =>
    simp only at *
    congr 1 <;> omega
section
variable {xs : Bytes} {n : Nat} (hn : n ≤ xs.length)
include hn
theorem cp_hashes (k : Nat) : ∀ (pos : Nat) (done : List GHash), CP (rdHashes xs k pos done) (rdHashes (xs.take n) k pos done) xs.length pos n := by
  induction k with
  | zero => intro pos done; exact CP.ok _ _ _ _
  | succ k ih => intro pos done; exact (cp_hash hn pos).bind fun h p => CP.ite (fun _ => ih p _) (fun _ => CP.bad _ _ _ _ _ _)
theorem cp_node (pos : Nat) : CP (rdNode0 xs pos) (rdNode0 (xs.take n) pos) xs.length pos n := by
  unfold rdNode0
  refine (cp_byte hn pos).bind fun form p1 => CP.ite (fun _ => ?_) (fun _ => CP.bad _ _ _ _ _ _)
  refine (cp_byte hn p1).bind fun au p2 => CP.ite (fun _ => ?_) (fun _ => CP.bad _ _ _ _ _ _)
  refine (cp_num hn p2 _).bind fun clock p3 => CP.ite (fun _ => CP.bad _ _ _ _ _ _) (fun _ => ?_)
  refine (cp_num hn p3 _).bind fun many p4 => CP.ite (fun _ => ?_) (fun _ => CP.bad _ _ _ _ _ _)
  exact (cp_hashes hn many p4 []).bind fun ps p5 => (cp_ops hn p5).bind fun ops p6 => CP.ok _ _ _ _
end
end Go.Proofs.Ytlpjeckhejbkkaa
end

section
set_option linter.unusedVariables false
set_option linter.unusedSimpArgs false
set_option maxRecDepth 20000
set_option maxHeartbeats 400000
namespace Go.Proofs.Ytlpjeckhejbkkaa
open Go.RowKit

theorem rdHashes_cut {xs : Bytes} (k : Nat) : ∀ (pos p : Nat) (done l : List GHash), rdHashes xs k pos done = .ok l p → pos ≤ xs.length → ∃ new : List GHash, l = done ++ new ∧ new.length = k ∧ cut xs pos p = new.flatMap GHash.l ∧ pos ≤ p ∧ p ≤ xs.length ∧ risingFrom done new = true := by
  induction k with
  | zero =>
    intro pos p done l h hp
    cases h
    exact ⟨[], by simp, rfl, by simp [cut_self], Nat.le_refl _, hp, rfl⟩
  | succ k ih =>
    intro pos p done l h hp
    unfold rdHashes at h
    rcases h1 : rdHash xs pos with ⟨g, p1⟩ | ⟨w, a⟩
    · rw [h1] at h
      simp only [Rd.bind] at h
      obtain ⟨k1, k2⟩ := rdHash_cut h1
      obtain ⟨k3, k4⟩ := rdHash_ok h1
      by_cases hr : risesTo done g = true
      · rw [if_pos hr] at h
        obtain ⟨new, n1, n2, n3, n4, n5, n6⟩ := ih p1 p (done ++ [g]) l h k4
        refine ⟨g :: new, by rw [n1]; simp, by simp [n2], ?_, by omega, n5, ?_⟩
        · rw [← cut_cat k2 n4, k1, n3]; simp
        · rw [risingFrom, hr, n6]; rfl
      · rw [if_neg hr] at h
        cases h
    · rw [h1] at h
      cases h
/-- what is read as a transaction is its block, and it may be -/
theorem rdNode0_cut {xs : Bytes} {p : Nat} {n : GNode} (h : rdNode0 xs 0 = .ok n p) : cut xs 0 p = nodeBlock n ∧ p ≤ xs.length ∧ checkNode n = 0 ∧ ∀ o ∈ n.ops, o.nums := by
  unfold rdNode0 at h
  rcases h1 : rdByte xs 0 with ⟨form, p1⟩ | ⟨w, a⟩
  · rw [h1] at h
    simp only [Rd.bind] at h
    obtain ⟨b1, b2, b3⟩ := rdByte_cut h1
    by_cases hf : form = 1
    · rw [if_pos hf] at h
      subst hf
      rcases h2 : rdByte xs p1 with ⟨au, p2⟩ | ⟨w, a⟩
      · rw [h2] at h
        simp only at h
        obtain ⟨c1, c2, c3⟩ := rdByte_cut h2
        by_cases ha : 1 ≤ au.toNat ∧ au.toNat ≤ 8
        · rw [if_pos ha] at h
          rcases h3 : rdNum xs p2 4096 with ⟨clock, p3⟩ | ⟨w, a⟩
          · rw [h3] at h
            simp only at h
            obtain ⟨d1, d2⟩ := rdNum_cut h3
            obtain ⟨d3, d4, d5, _⟩ := rdNum_ok h3 c3
            by_cases hc : clock = 0
            · rw [if_pos hc] at h; cases h
            rw [if_neg hc] at h
            rcases h4 : rdNum xs p3 64 with ⟨many, p4⟩ | ⟨w, a⟩
            · rw [h4] at h
              simp only at h
              obtain ⟨e1, e2⟩ := rdNum_cut h4
              obtain ⟨e3, e4, e5, _⟩ := rdNum_ok h4 d5
              by_cases hm : decide (clock = 1) = decide (many = 0)
              · rw [if_pos hm] at h
                rcases h5 : rdHashes xs many p4 [] with ⟨ps, p5⟩ | ⟨w, a⟩
                · rw [h5] at h
                  simp only at h
                  obtain ⟨new, f1, f2, f3, f4, f5, f6⟩ := rdHashes_cut many p4 p5 [] ps h5 e5
                  rw [List.nil_append] at f1
                  subst f1
                  rcases h6 : rdOps xs p5 with ⟨ops, p6⟩ | ⟨w, a⟩
                  · rw [h6] at h
                    simp only at h
                    obtain ⟨g1, g2, g3, g4, g5⟩ := rdOps_cut h6 f5
                    cases h
                    have hau : UInt8.ofNat ((au.toNat : Int).toNat) = au := by simp
                    refine ⟨?_, g3, ?_, g5⟩
                    · unfold nodeBlock
                      simp only [hau, Int.toNat_natCast, f2]
                      rw [← cut_cat (xs := xs) (a := 0) (b := p1) (c := p) (by omega) (by omega), b1, ← cut_cat (xs := xs) (a := p1) (b := p2) (c := p) (by omega) (by omega), c1, ← cut_cat (xs := xs) (a := p2) (b := p3) (c := p) (by omega) (by omega), d1, ← cut_cat (xs := xs) (a := p3) (b := p4) (c := p) (by omega) (by omega), e1, ← cut_cat (xs := xs) (a := p4) (b := p5) (c := p) (by omega) (by omega), f3, g1]
                      simp
                    · unfold checkNode
                      simp only
                      rw [if_neg (by omega), if_neg ?_, if_neg ?_, g4]
                      · rw [f2, f6]; simp; omega
                      · rw [f2]
                        intro hh
                        rcases hh with hh | hh | hh
                        · omega
                        · omega
                        · apply hh
                          rw [← hm]
                          congr 1
                          simp; omega
                  · rw [h6] at h; cases h
                · rw [h5] at h; cases h
              · rw [if_neg hm] at h; cases h
            · rw [h4] at h; cases h
          · rw [h3] at h; cases h
        · rw [if_neg ha] at h; cases h
      · rw [h2] at h; cases h
    · rw [if_neg hf] at h; cases h
  · rw [h1] at h; cases h
theorem node_read {n : GNode} (h : checkNode n = 0) (hn : ∀ o ∈ n.ops, o.nums) (C : Bytes) : rdNode0 (nodeBlock n ++ C) 0 = .ok n (nodeBlock n).length := by
  have e := (rp_node h hn).at_ (xs := nodeBlock n ++ C) (A := []) (C := C) (by simp) (p := 0) rfl
  rw [Nat.zero_add] at e
  exact e
/-- the block of a transaction says it -/
theorem node_returns {n : GNode} (h : checkNode n = 0) (hn : ∀ o ∈ n.ops, o.nums) (hz : (nodeBlock n).length ≤ 1048576) : rdNode (nodeBlock n) = .ok n (nodeBlock n).length := by
  have e := node_read h hn []
  rw [List.append_nil] at e
  unfold rdNode
  rw [if_neg (by omega), e]
  simp only [Rd.bind]
  rw [if_neg (by omega)]
/-- whatever bytes say a transaction are its block -/
theorem node_oneform {xs : Bytes} {n : GNode} {p : Nat} (h : rdNode xs = .ok n p) : nodeBlock n = xs ∧ p = xs.length ∧ checkNode n = 0 ∧ (∀ o ∈ n.ops, o.nums) ∧ xs.length ≤ 1048576 := by
  unfold rdNode at h
  by_cases hz : 1048576 < xs.length
  · rw [if_pos hz] at h; cases h
  rw [if_neg hz] at h
  rcases h1 : rdNode0 xs 0 with ⟨m, q⟩ | ⟨w, a⟩
  · rw [h1] at h
    simp only [Rd.bind] at h
    obtain ⟨k1, k2, k3, k4⟩ := rdNode0_cut h1
    by_cases hq : q < xs.length
    · rw [if_pos hq] at h; cases h
    · rw [if_neg hq] at h
      cases h
      have hp : p = xs.length := by omega
      subst hp
      refine ⟨?_, rfl, k3, k4, by omega⟩
      rw [← k1]
      simp [cut]
  · rw [h1] at h; cases h
/-- more behind a block -/
theorem node_more {n : GNode} (h : checkNode n = 0) (hn : ∀ o ∈ n.ops, o.nums) {C : Bytes} (hC : 0 < C.length) (hz : (nodeBlock n).length + C.length ≤ 1048576) : rdNode (nodeBlock n ++ C) = .bad 23 (nodeBlock n).length := by
  unfold rdNode
  rw [if_neg (by rw [List.length_append]; omega), node_read h hn C]
  simp only [Rd.bind]
  rw [if_pos (by rw [List.length_append]; omega)]
/-- less than a block -/
theorem node_short {n : GNode} (h : checkNode n = 0) (hn : ∀ o ∈ n.ops, o.nums) (hz : (nodeBlock n).length ≤ 1048576) {k : Nat} (hk : k < (nodeBlock n).length) : ∃ a, a ≤ k ∧ rdNode ((nodeBlock n).take k) = .bad 20 a := by
  have e := node_read h hn []
  rw [List.append_nil] at e
  obtain ⟨_, h2⟩ := cp_node (xs := nodeBlock n) (n := k) (by omega) 0 n _ e (by omega)
  obtain ⟨a, ha, hr⟩ := (h2 (by omega)).2 hk
  refine ⟨a, ha, ?_⟩
  unfold rdNode
  rw [if_neg (by rw [List.length_take]; omega), hr]
  rfl
end Go.Proofs.Ytlpjeckhejbkkaa
end

section
set_option linter.unusedVariables false
set_option linter.unusedSimpArgs false
set_option maxRecDepth 20000
set_option maxHeartbeats 400000
namespace Go.Proofs.Ytlpjeckhejbkkaa
open Go.RowKit

set_option linter.unusedSectionVars false
/-- where something is wrong lies within the bytes; what is wrong has a number -/
def BL {α : Type} (r : Rd α) (L pos : Nat) : Prop := pos ≤ L → (∀ w a, r = .bad w a → a ≤ L ∧ 0 < w) ∧ (∀ v p, r = .ok v p → pos ≤ p ∧ p ≤ L)
theorem BL.ok {α : Type} (v : α) (L p : Nat) : BL (.ok v p) L p := fun hp => ⟨fun w a h => (by cases h), fun v' p' h => by cases h; exact ⟨Nat.le_refl _, hp⟩⟩
theorem BL.bad {α : Type} {w a L pos : Nat} (ha : pos ≤ L → a ≤ L) (hw : 0 < w) : BL (.bad w a : Rd α) L pos := fun hp => ⟨fun w' a' h => by cases h; exact ⟨ha hp, hw⟩, fun v' p' h => by cases h⟩
theorem BL.bind {α β : Type} {r : Rd α} {g : α → Nat → Rd β} {L pos : Nat} (h : BL r L pos) (hg : ∀ v q, r = .ok v q → pos ≤ q → q ≤ L → BL (g v q) L q) : BL (r.bind g) L pos := by
  intro hp
  obtain ⟨h1, h2⟩ := h hp
  cases r with
  | bad w a => exact ⟨fun w' a' hh => by cases hh; exact h1 _ _ rfl, fun v p hh => by cases hh⟩
  | ok v q =>
    obtain ⟨k1, k2⟩ := h2 v q rfl
    obtain ⟨j1, j2⟩ := hg v q rfl k1 k2 k2
    exact ⟨j1, fun u p hh => by obtain ⟨m1, m2⟩ := j2 u p hh; exact ⟨by omega, m2⟩⟩
theorem BL.ite {α : Type} {c : Prop} [Decidable c] {r s : Rd α} {L pos : Nat} (h : c → BL r L pos) (k : ¬ c → BL s L pos) : BL (if c then r else s) L pos := by
  by_cases hc : c
  · rw [if_pos hc]; exact h hc
  · rw [if_neg hc]; exact k hc
variable (xs : Bytes)
theorem bl_raw (pos k : Nat) : BL (rdRaw xs pos k) xs.length pos := by
  unfold rdRaw
  exact BL.ite (fun _ => BL.bad id (by decide)) (fun h hp => ⟨fun w a hh => (by cases hh), fun v p hh => by cases hh; omega⟩)
theorem bl_byte (pos : Nat) : BL (rdByte xs pos) xs.length pos := by
  unfold rdByte
  split
  · exact fun hp => ⟨fun w a hh => (by cases hh), fun v p hh => by cases hh; omega⟩
  · exact BL.bad id (by decide)
theorem numAt_why (bs : Bytes) : ∀ i acc, (numAt i acc bs).2.2 = 0 ∨ 0 < (numAt i acc bs).2.2 := fun i acc => by omega
theorem bl_num (pos most : Nat) : BL (rdNum xs pos most) xs.length pos := by
  intro hp
  refine ⟨fun w a h => ?_, fun v p h => ?_⟩
  · unfold rdNum at h
    simp only at h
    split at h
    · split at h
      · cases h; exact ⟨hp, by decide⟩
      · cases h
    · cases h
      exact ⟨hp, by omega⟩
  · have := rdNum_ok h hp
    omega
theorem bl_hash (pos : Nat) : BL (rdHash xs pos) xs.length pos := by
  unfold rdHash
  split
  · exact fun hp => ⟨fun w a hh => (by cases hh), fun v p hh => by cases hh; omega⟩
  · exact BL.bad id (by decide)
theorem bl_text (pos : Nat) : BL (rdText xs pos) xs.length pos := by
  unfold rdText rdBytes
  exact ((bl_num xs pos _).bind fun n q _ _ _ => bl_raw xs q n).bind fun _ _ _ _ _ => BL.ok _ _ _
theorem bl_signed (pos : Nat) : BL (rdSigned xs pos) xs.length pos := by
  unfold rdSigned
  exact (bl_num xs pos _).bind fun _ _ _ _ _ => BL.ok _ _ _
theorem bl_at (pos : Nat) : BL (rdAt xs pos) xs.length pos := by
  unfold rdAt
  exact (bl_num xs pos _).bind fun n q _ _ _ => BL.ite (fun _ => BL.ok _ _ _) (fun _ => (bl_hash xs q).bind fun _ _ _ _ _ => BL.ok _ _ _)
theorem bl_op (pos : Nat) (done : List GOp) (hpos : pos ≤ xs.length) : BL (rdOp xs pos done) xs.length pos := by
  unfold rdOp
  refine (bl_byte xs pos).bind fun k p1 _ _ _ => BL.ite (fun _ => BL.bad (fun _ => hpos) (by decide)) (fun _ => ?_)
  refine (bl_text xs p1).bind fun key p2 _ _ _ => ?_
  refine BL.bind (BL.ite (fun _ => bl_text xs p2) (fun _ => BL.ok _ _ _)) fun text p3 _ _ _ => ?_
  refine BL.bind (BL.ite (fun _ => bl_signed xs p3) (fun _ => BL.ok _ _ _)) fun m p4 _ _ h4 => ?_
  exact BL.ite (fun _ => (bl_at xs p4).bind fun a p5 _ _ _ => BL.ite (fun _ => BL.ok _ _ _) (fun _ => BL.bad (fun _ => h4) (by decide))) (fun _ => BL.ok _ _ _)
theorem bl_list (k : Nat) : ∀ (pos : Nat) (done : List GOp), pos ≤ xs.length → BL (rdList xs k pos done) xs.length pos := by
  induction k with
  | zero => intro pos done _; exact BL.ok _ _ _
  | succ k ih => intro pos done hp; exact (bl_op xs pos done hp).bind fun o p _ _ h => ih p _ h
theorem bl_ops (pos : Nat) : BL (rdOps xs pos) xs.length pos := by
  unfold rdOps
  exact (bl_num xs pos _).bind fun v q _ _ h => bl_list xs v q [] h
theorem bl_hashes (k : Nat) : ∀ (pos : Nat) (done : List GHash), pos ≤ xs.length → BL (rdHashes xs k pos done) xs.length pos := by
  induction k with
  | zero => intro pos done _; exact BL.ok _ _ _
  | succ k ih => intro pos done hp; exact (bl_hash xs pos).bind fun h p _ _ hq => BL.ite (fun _ => ih p _ hq) (fun _ => BL.bad (fun _ => hp) (by decide))
theorem bl_node0 : BL (rdNode0 xs 0) xs.length 0 := by
  unfold rdNode0
  refine (bl_byte xs 0).bind fun form p1 e1 _ h1 => BL.ite (fun _ => ?_) (fun _ => BL.bad (fun _ => Nat.zero_le _) (by decide))
  obtain ⟨_, b2, _⟩ := rdByte_cut e1
  refine (bl_byte xs p1).bind fun au p2 e2 _ h2 => ?_
  obtain ⟨_, c2, _⟩ := rdByte_cut e2
  refine BL.ite (fun _ => ?_) (fun _ => BL.bad (fun _ => by omega) (by decide))
  refine (bl_num xs p2 _).bind fun clock p3 _ _ _ => BL.ite (fun _ => BL.bad (fun _ => by omega) (by decide)) (fun _ => ?_)
  refine (bl_num xs p3 _).bind fun many p4 _ _ h4 => BL.ite (fun _ => ?_) (fun _ => BL.bad (fun _ => by omega) (by decide))
  exact (bl_hashes xs many p4 [] h4).bind fun ps p5 _ _ _ => (bl_ops xs p5).bind fun ops p6 _ _ _ => BL.ok _ _ _
theorem node_bad {w a : Nat} (h : rdNode xs = .bad w a) : a ≤ xs.length ∧ 0 < w := by
  unfold rdNode at h
  by_cases hz : 1048576 < xs.length
  · rw [if_pos hz] at h
    cases h
    exact ⟨by omega, by decide⟩
  · rw [if_neg hz] at h
    have hb := (bl_node0 xs).bind (g := fun n p => if p < xs.length then .bad 23 p else .ok n p) fun n p _ _ hp => BL.ite (fun _ => BL.bad (fun _ => hp) (by decide)) (fun _ => BL.ok _ _ _)
    exact (hb (Nat.zero_le _)).1 w a h
end Go.Proofs.Ytlpjeckhejbkkaa
end

section
set_option linter.unusedVariables false
set_option linter.unusedSimpArgs false
set_option maxRecDepth 20000
set_option maxHeartbeats 400000
namespace Go.Proofs.Ytlpjeckhejbkkaa
open Go.RowKit

abbrev HS (w : World) (g : Nat) (v : Value) (l : List GHash) : Prop := RS w 32 g v l.length (l.flatMap GHash.cells)
theorem HS.item {w : World} {g : Nat} {v : Value} {l : List GHash} (h : HS w g v l) (h0 : 0 < l.length) :
    ∃ off cap, v = .slice (some ⟨g, off, none⟩) l.length cap ∧ l.length ≤ cap ∧ cap ≤ maxLen ∧ g < w.heap.size ∧ ∀ (i : Nat) (hi : i < l.length), HashAt w g (off + i * 32) l[i] := RS.item GHash.cells_length h h0
/-! ### two hashes in their order -/
theorem cmpB_lib : ∀ a b : Bytes, a.length = b.length → Lib.compareBytes a b = cmpB a b
  | [], [], _ => by simp [Lib.compareBytes, cmpB]
  | x :: a, y :: b, h => by
    unfold Lib.compareBytes cmpB
    rw [cmpB_lib a b (by simpa using h)]
  | [], y :: b, h => by simp at h
  | x :: a, [], h => by simp at h
theorem cmpB_self : ∀ a : Bytes, cmpB a a = 0
  | [] => rfl
  | x :: a => by
    unfold cmpB
    rw [if_neg (by simp), if_neg (by simp)]
    exact cmpB_self a
theorem cmpB_range : ∀ a b : Bytes, cmpB a b = -1 ∨ cmpB a b = 0 ∨ cmpB a b = 1
  | [], [] => .inr (.inl rfl)
  | [], y :: b => .inr (.inl rfl)
  | x :: a, [] => .inr (.inl rfl)
  | x :: a, y :: b => by
    unfold cmpB
    split
    · exact .inl rfl
    · split
      · exact .inr (.inr rfl)
      · exact cmpB_range a b
theorem run_loadBytes {P : Program} {w : World} {b : Nat} (xs : Bytes) : ∀ (o : Nat) (acc : ByteArray), (∀ (i : Nat) (u : Value), (xs.map bv)[i]? = some u → w.cell? ⟨b, o + i, none⟩ = some u) →
    (Extern.Bytes.loadBytes ⟨b, o, none⟩ xs.length acc).run P w = .ok ⟨acc.data ++ xs.toArray⟩ w := by
  induction xs with
  | nil => intro o acc _; simp [Extern.Bytes.loadBytes]
  | cons x xs ih =>
    intro o acc h
    have h0 := h 0 (bv x) rfl
    rw [Nat.add_zero] at h0
    have h1 := ih (o + 1) (acc.push x) (fun i u hu => by rw [Nat.add_assoc, Nat.add_comm 1 i]; exact h (i + 1) u (by simpa using hu))
    rw [List.length_cons, Extern.Bytes.loadBytes]
    have e : (⟨b, o, none⟩ : Addr).add 1 = ⟨b, o + 1, none⟩ := by simp [Addr.add]
    have ex : (Int.toNat (x.toNat : Int)).toUInt8 = x := by simp
    simp only [Sem.run_bind, Go.run_load, h0, Result.andThen_ok, bv, e, ex]
    rw [h1]
    congr 2
    simp [ByteArray.push]
theorem run_bytesOf {P : Program} {w : World} {g : Nat} {v : Value} {xs : Bytes} (h : BS w g v xs) : (Extern.Bytes.bytesOf v).run P w = .ok ⟨xs.toArray⟩ w := by
  by_cases h0 : 0 < xs.length
  · obtain ⟨off, cap, rfl, _, _, _, hc⟩ := h.at_ h0
    unfold Extern.Bytes.bytesOf
    rw [run_loadBytes xs off _ hc]
    congr 2
    simp
  · obtain rfl : xs = [] := List.eq_nil_of_length_eq_zero (by omega)
    obtain ⟨A, cap, rfl, _, _⟩ := h.val
    cases A
    · simp [Extern.Bytes.bytesOf]; rfl
    · simp [Extern.Bytes.bytesOf, Extern.Bytes.loadBytes]; rfl
theorem bytealg_any {w : World} {g k : Nat} {v u : Value} {xs ys : Bytes} (h : BS w g v xs) (h' : BS w k u ys) (hl : xs.length = ys.length) :
    (callFunc 87 #[v, u]).run Try.prog w = .ok (.value (.int .i64 (cmpB xs ys))) w := by
  rw [run_callFunc_extern Try.func87 (by kernel_rfl) (by kernel_rfl) (by kernel_rfl) (e := Extern.BytealgCompare.compare) (by kernel_rfl)]
  have : (Extern.BytealgCompare.compare #[v, u]).run Try.prog w = .ok (.int .i64 (cmpB xs ys)) w := by
    change Sem.run Try.prog (do pure (goInt (Extern.BytealgCompare.cmp (← Extern.Bytes.bytesOf v) (← Extern.Bytes.bytesOf u)))) w = _
    simp only [Sem.run_bind, run_bytesOf h, run_bytesOf h', Sem.run_pure, Result.andThen_ok]
    rw [Lib.cmp_eq]
    simp only
    rw [cmpB_lib xs ys hl]
    rfl
  rw [this]
  rfl
end Go.Proofs.Ytlpjeckhejbkkaa
end

section
set_option linter.unusedVariables false
set_option linter.unusedSimpArgs false
set_option maxRecDepth 20000
set_option maxHeartbeats 800000
namespace Go.Proofs.Ytlpjeckhejbkkaa
open Go.RowKit

theorem bytesCompare_any {w : World} {g k : Nat} {v u : Value} {xs ys : Bytes} (h : BS w g v xs) (h' : BS w k u ys) (hl : xs.length = ys.length) :
    Calls Try.prog 67 #[v, u] w fun e w' => e = .returned (.int .i64 (cmpB xs ys)) ∧ w = w' := by
  have hc := bytealg_any h h' hl
  go_enter Try.func67, Try.ntmps67
  go_wp2
  go_ret
  exact ⟨rfl, rfl⟩
theorem GHash.bs {w : World} {q : Nat} {h : GHash} {t : TypeId} (hb : Blk w q t h.cells.toArray) : BS w q (.slice (some ⟨q, 0, none⟩) 32 32) h.l := by
  unfold BS
  rw [h.h]
  refine ⟨by simp [h.h], _, 32, rfl, Nat.le_refl _, by decide, fun _ => ⟨0, rfl, hb.lt, fun i u hu => ?_⟩⟩
  rw [Nat.zero_add, hb.cell i]
  simpa [GHash.cells] using hu
theorem shaCompare_any (a b : GHash) (w : World) : Calls Try.prog 50 #[a.val, b.val] w fun e w' => e = .returned (.int .i64 (cmpB a.l b.l)) ∧ Mod [] w w' := by
  have HC : Hid ((a == b) = true → cmpB a.l b.l = 0) := Lib.hid (fun h => by have e := beq_iff_eq.1 h; subst e; exact cmpB_self _)
  go_enter Try.func50, Try.ntmps50
  go_wp2_with (first | ((with_reducible refine wpList_box _ rfl ?hgd (cs := a.cells) ?hx ?_); (case hgd => exact rfl); (case hx => exact rfl); intro q1 w1 hv1 hm1 hq1 hl1; have HV1 := Lib.hid hv1; have HM1 := Lib.hid hm1; clear hv1 hm1) | ((with_reducible refine wpList_box _ rfl ?hgd (cs := b.cells) ?hx ?_); (case hgd => exact rfl); (case hx => exact rfl); intro q2 w2 hv2 hm2 hq2 hl2; have HA : Hid (Blk w2 q1 46 a.cells.toArray) := Lib.hid (HV1.out.mod hm2 (by simp)); have HB := Lib.hid hv2; have HA0 : Hid (HashAt w2 q1 0 a) := Lib.hid (CellsAt.of_blk HA.out); have HB0 : Hid (HashAt w2 q2 0 b) := Lib.hid (CellsAt.of_blk hv2); have HM2 := Lib.hid (HM1.out.trans hm2); clear hv2 hm2) | ((with_reducible refine wpList_load_hash _ rfl ?hgd HA0.out ?hx ?_); (case hgd => exact rfl); (case hx => exact rfl)) | ((with_reducible refine wpList_load_hash _ rfl ?hgd HB0.out ?hx ?_); (case hgd => exact rfl); (case hx => exact rfl)))
  · go_ret
    refine ⟨ret_int ?_, HM2.out⟩
    rw [HC.out (by assumption)]
  · go_quiet ((go_at_call 67; exact quiet_left (bytesCompare_any (GHash.bs (HA.out.drewN _)) (GHash.bs (HB.out.drewN _)) (by rw [a.h, b.h]))))
    go_wp2
    go_ret
    exact ⟨rfl, HM2.out.drewN _⟩
end Go.Proofs.Ytlpjeckhejbkkaa
end

section
set_option linter.unusedVariables false
set_option linter.unusedSimpArgs false
set_option maxRecDepth 20000
set_option maxHeartbeats 800000
namespace Go.Proofs.Ytlpjeckhejbkkaa
open Go.RowKit

/-! ### hashes that rise -/
theorem risesTo_eq (done : List GHash) (g h : GHash) (hd : done.getLast? = some g) : risesTo done h = decide (cmpB g.l h.l < 0) := by unfold risesTo; rw [hd]
theorem rising_iff (l : List GHash) : ∀ done : List GHash, risingFrom done l = true ↔ (∀ g h, done.getLast? = some g → l.head? = some h → cmpB g.l h.l < 0) ∧ ∀ i (h : i + 1 < l.length), cmpB (l[i]'(by omega)).l l[i + 1].l < 0 := by
  induction l with
  | nil => intro done; simp [risingFrom]
  | cons x l ih =>
    intro done
    rw [risingFrom, Bool.and_eq_true, ih (done ++ [x])]
    have h1 : risesTo done x = true ↔ ∀ g, done.getLast? = some g → cmpB g.l x.l < 0 := by
      unfold risesTo
      cases done.getLast? with
      | none => simp
      | some g => simp
    rw [h1]
    constructor
    · rintro ⟨a, b, c⟩
      refine ⟨fun g h hg hh => by simp at hh; subst hh; exact a g hg, fun i hi => ?_⟩
      cases i with
      | zero =>
        cases l with
        | nil => simp at hi
        | cons y l => exact b x y (by simp) (by simp)
      | succ i => exact c i (by simpa using hi)
    · rintro ⟨a, c⟩
      refine ⟨fun g hg => a g x hg rfl, fun g h hg hh => ?_, fun i hi => c (i + 1) (by simpa using hi)⟩
      cases l with
      | nil => simp at hh
      | cons y l =>
        simp at hg hh
        subst hg hh
        exact c 0 (by simp)
theorem rising_true {l : List GHash} (h : ∀ i (h : i + 1 < l.length), cmpB (l[i]'(by omega)).l l[i + 1].l < 0) : risingFrom [] l = true := (rising_iff l []).2 ⟨by simp, h⟩
theorem rising_false {l : List GHash} {i : Nat} (h : i + 1 < l.length) (hc : ¬ cmpB (l[i]'(by omega)).l l[i + 1].l < 0) : risingFrom [] l = false := by
  cases hr : risingFrom [] l with
  | false => rfl
  | true => exact absurd (((rising_iff l []).1 hr).2 i h) hc
theorem rising_any (l : List GHash) (g : Nat) (v : Value) (w : World) (hs : HS w g v l) :
    Calls Try.prog 31 #[v] w fun e w' => e = .returned (.bool (risingFrom [] l)) ∧ Mod [] w w' := by
  obtain ⟨A, cap, rfl, hc1, hc2⟩ := hs.val
  unfold maxLen at hc2
  have HS1 := Lib.hid hs; clear hs
  go_enter Try.func31, Try.ntmps31
  go_wp2_with fail
  go_loopw [3] (fun s3 wr => ∃ m : Nat, s3 = .int .i64 ((m : Int) + 1) ∧ (m + 1 ≤ l.length ∨ m = 0) ∧ Hid (∀ i (h : i + 1 < l.length), i < m → cmpB (l[i]'(by omega)).l l[i + 1].l < 0) ∧ Hid (Mod [] w wr)) (fun s _ => l.length - (intOf s).toNat)
  case atStart => exact ⟨0, rfl, .inr rfl, Lib.hid (fun i _ h => by omega), Lib.hid (Mod.refl _ _)⟩
  case round =>
    obtain ⟨m, rfl, hm, HR, HM⟩ := hrel
    by_cases hml : m + 1 < l.length
    · have HOA : Hid (HS wr g _ l) := Lib.hid (HS1.out.mod HM.out (by simp))
      obtain ⟨o1, ca, hv1, _, _, _, hA⟩ := HS.item HOA.out (by omega)
      injection hv1 with hx1 hx2 hx3
      subst hx1 hx3
      have HA := Lib.hid (hA m (by omega))
      have HB := Lib.hid (hA (m + 1) hml)
      clear hA hx2 hm
      have hlt : (m : Int) + 1 < l.length := by omega
      go_wp2_with fail
      have hw0 : Mod [] wr wr.drew := (Mod.refl _ wr).drew
      have hlA : ∀ W, Mod [] wr W → CellsAt W g (o1 + m * 32) (l[m]'(by omega)).cells := fun W hW => CellsAt.mod HA.out hW (by simp)
      have hlB : ∀ W, Mod [] wr W → CellsAt W g (o1 + (m + 1) * 32) l[m + 1].cells := fun W hW => CellsAt.mod HB.out hW (by simp)
      have hq : IntKind.i64.wrap ((m : Int) + 1 - 1) = (m : Int) := by rw [IntWalk.i64_in _ (by omega)]; omega
      have hq2 : IntKind.i64.wrap (m : Int) = (m : Int) := IntWalk.i64_in _ (by omega)
      have hml2 : (m : Int) < (l.length : Int) := by omega
      have hn : ((m : Int) + 1).toNat = m + 1 := by omega
      have hn0 : (0 : Int) ≤ (m : Int) + 1 := by omega
      have HS2 : Hid (∀ W, Calls Try.prog 50 #[.agg (l[m]'(by omega)).cells.toArray, .agg l[m + 1].cells.toArray] W fun e w' => e = .returned (.int .i64 (cmpB (l[m]'(by omega)).l l[m + 1].l)) ∧ Mod [] W w') := Lib.hid (fun W => shaCompare_any _ _ W)
      obtain ⟨c, hc⟩ : ∃ c, cmpB (l[m]'(by omega)).l l[m + 1].l = c := ⟨_, rfl⟩
      rw [hc] at HS2
      have HCC := Lib.hid hc
      clear hc
      refine wp_regionE (Mod []) (by kernel_rfl) ?_
      simp only [List.size_toArray, List.length_cons, List.length_nil, Nat.zero_add, Nat.reduceAdd]
      refine wpAnyE_takeL (preMod _) 0 (v := ?_) rfl (by kernel_rfl) (by kernel_rfl) (by kernel_rfl) (fun _ _ _ h => h) (Or.inl ⟨by rfl, ?_⟩) ?_
      rotate_left; (intro W hW; (try dsimp only at hW); go_simp; try with_reducible rfl)
      (try simp only [Act.put, List.setIfInBounds_toArray, List.set_cons_zero, List.set_cons_succ])
      refine wpAnyE_takeL (preMod _) 1 (v := ?_) rfl (by kernel_rfl) (by kernel_rfl) (by kernel_rfl) (fun _ _ _ h => h) (Or.inl ⟨by rfl, ?_⟩) ?_
      rotate_left; (intro W hW; (try dsimp only at hW); go_simp; try with_reducible rfl)
      (try simp only [Act.put, List.setIfInBounds_toArray, List.set_cons_zero, List.set_cons_succ])
      refine wpAnyE_takeL (preMod _) 2 (v := ?_) rfl (by kernel_rfl) (by kernel_rfl) (by kernel_rfl) (fun _ _ _ h => h) (Or.inl ⟨by rfl, ?_⟩) ?_
      rotate_left; (intro W hW; (try dsimp only at hW); go_simp; try with_reducible rfl)
      (try simp only [Act.put, List.setIfInBounds_toArray, List.set_cons_zero, List.set_cons_succ])
      refine wpAnyE_takeL (preMod _) 3 (v := ?_) rfl (by kernel_rfl) (by kernel_rfl) (by kernel_rfl) (fun _ _ _ h => h) (Or.inl ⟨by rfl, ?_⟩) ?_
      rotate_left; (intro W hW; (try dsimp only at hW); go_simp; try with_reducible rfl)
      (try simp only [Act.put, List.setIfInBounds_toArray, List.set_cons_zero, List.set_cons_succ])
      refine wpAnyE_takeL (preMod _) 4 (v := ?_) rfl (by kernel_rfl) (by kernel_rfl) (by kernel_rfl) (fun _ _ _ h => h) (Or.inl ⟨by rfl, ?_⟩) ?_
      rotate_left; (intro W hW; (try dsimp only at hW); refine (run_load_cells rtHash (.tmp 13) (by rfl) (by rfl) (GHash.cells_length _) (hlA W (hw0.trans hW))).trans ?_; try with_reducible rfl)
      (try simp only [Act.put, List.setIfInBounds_toArray, List.set_cons_zero, List.set_cons_succ])
      refine wpAnyE_takeL (preMod _) 5 (v := ?_) rfl (by kernel_rfl) (by kernel_rfl) (by kernel_rfl) (fun _ _ _ h => h) (Or.inl ⟨by rfl, ?_⟩) ?_
      rotate_left; (intro W hW; (try dsimp only at hW); go_simp; try with_reducible rfl)
      (try simp only [Act.put, List.setIfInBounds_toArray, List.set_cons_zero, List.set_cons_succ])
      refine wpAnyE_takeL (preMod _) 6 (v := ?_) rfl (by kernel_rfl) (by kernel_rfl) (by kernel_rfl) (fun _ _ _ h => h) (Or.inl ⟨by rfl, ?_⟩) ?_
      rotate_left; (intro W hW; (try dsimp only at hW); go_simp; try with_reducible rfl)
      (try simp only [Act.put, List.setIfInBounds_toArray, List.set_cons_zero, List.set_cons_succ])
      refine wpAnyE_takeL (preMod _) 7 (v := ?_) rfl (by kernel_rfl) (by kernel_rfl) (by kernel_rfl) (fun _ _ _ h => h) (Or.inl ⟨by rfl, ?_⟩) ?_
      rotate_left; (intro W hW; (try dsimp only at hW); (go_simp; try rw [if_pos (by omega)]); try with_reducible rfl)
      (try simp only [Act.put, List.setIfInBounds_toArray, List.set_cons_zero, List.set_cons_succ])
      refine wpAnyE_takeL (preMod _) 8 (v := ?_) rfl (by kernel_rfl) (by kernel_rfl) (by kernel_rfl) (fun _ _ _ h => h) (Or.inl ⟨by rfl, ?_⟩) ?_
      rotate_left; (intro W hW; (try dsimp only at hW); refine (run_load_cells rtHash (.tmp 17) (by rfl) (by rfl) (GHash.cells_length _) (hlB W (hw0.trans hW))).trans ?_; try with_reducible rfl)
      (try simp only [Act.put, List.setIfInBounds_toArray, List.set_cons_zero, List.set_cons_succ])
      refine wpAnyE_ready (rs := [9]) (by kernel_rfl) (by simp) ?_
      refine AllReadyE.consL rfl (fun K hK => ?_) AllReadyE.nil
      rw [if_pos (by rfl)]
      go_simp
      go_at_call 50
      refine (HS2.out _).mono ?_
      rintro e' w9 ⟨rfl, hm9⟩
      have hmE := hm9
      have HM9 : Hid (Mod [] wr w9) := Lib.hid (hw0.trans hm9)
      go_wp2_with fail
      refine hK.out _ _ (by first | exact hmE | exact Mod.refl _ _ | exact (Mod.refl _ _).alloc _) ?_
      clear hK
      (try simp only [Act.put, List.setIfInBounds_toArray, List.set_cons_zero, List.set_cons_succ])
      refine wpAnyE_takeL (preMod _) 10 (v := ?_) rfl (by kernel_rfl) (by kernel_rfl) (by kernel_rfl) (fun _ _ _ h => h) (Or.inl ⟨by rfl, ?_⟩) ?_
      rotate_left; (intro W hW; (try dsimp only at hW); go_simp; try with_reducible rfl)
      (try simp only [Act.put, List.setIfInBounds_toArray, List.set_cons_zero, List.set_cons_succ])
      refine wpAnyE_done (by kernel_rfl) ?_ _
      have HMW : Hid (Mod [] w w9) := Lib.hid (HM.out.trans HM9.out)
      clear hlA hlB
      by_cases hneg : c < 0
      · have hge : ¬ (0 ≤ c) := by omega
        go_wp2_with fail
        go_roundw
        case rel =>
          refine ⟨m + 1, by go_num, .inl (by omega), Lib.hid (fun i hi him => ?_), HMW⟩
          by_cases e : i = m
          · subst e; rw [HCC.out]; exact hneg
          · exact HR.out i hi (by omega)
        case measure => simp [intOf]; omega
      · have hge : 0 ≤ c := by omega
        go_wp2_with fail
        go_ret
        exact ⟨ret_bool (rising_false hml (by rw [HCC.out]; omega)).symm, HMW.out⟩
    · have hlt : ¬ ((m : Int) + 1 < l.length) := by omega
      go_wp2_with fail
      go_ret
      exact ⟨ret_bool (rising_true (fun i hi => HR.out i hi (by omega))).symm, HM.out⟩
end Go.Proofs.Ytlpjeckhejbkkaa
end

section
set_option linter.unusedVariables false
set_option linter.unusedSimpArgs false
set_option maxRecDepth 20000
set_option maxHeartbeats 400000
namespace Go.Proofs.Ytlpjeckhejbkkaa
open Go.RowKit

/-- what the end of the bytes answers -/
def EndP (w : World) (p g : Nat) (xs : Bytes) (n0 : Nat) (e' : Ending) (w' : World) : Prop :=
  if n0 < xs.length then ∃ q, e' = .returned (badV q) ∧ BadAt w' q 23 n0 ∧ InB w' p g xs n0 (badV q) ∧ Mod [p] w w' ∧ w.heap.size ≤ q
  else e' = .returned .nilIface ∧ InB w' p g xs n0 .nilIface ∧ Mod [p] w w'
theorem inEnd_any (p g : Nat) (xs : Bytes) (w : World) (n0 : Nat) (hI : InB w p g xs n0 .nilIface) (hn : n0 ≤ xs.length) :
    Calls Try.prog 53 #[ptr p] w (EndP w p g xs n0) := by
  obtain ⟨A, cap, h0, h1, h2, f0, f1, f2, hl, hr, hgp, hlc, hcm⟩ := hI.cells
  have HI := Lib.hid hI; clear hI hr
  by_cases hlt : n0 < xs.length
  · have HE : Hid (∀ e w', EndP w p g xs n0 e w' = ∃ q, e = .returned (badV q) ∧ BadAt w' q 23 n0 ∧ InB w' p g xs n0 (badV q) ∧ Mod [p] w w' ∧ w.heap.size ≤ q) := Lib.hid (fun e w' => by unfold EndP; rw [if_pos hlt])
    go_enter Try.func53, Try.ntmps53
    go_wp2
    go_quiet (fail)
    go_wp2_with fail
    refine (fail_any _ _ p g xs _ _ _ (HI.out.drewN _)).mono ?_
    rintro e' w1 ⟨rfl, hb, hI1, hm⟩
    go_wp2
    go_ret
    rw [HE.out]
    exact ⟨_, rfl, hb, hI1, (Mod.of_drewN _ w _).trans hm, Nat.le_refl _⟩
  · have HE : Hid (∀ e w', EndP w p g xs n0 e w' = (e = .returned .nilIface ∧ InB w' p g xs n0 .nilIface ∧ Mod [p] w w')) := Lib.hid (fun e w' => by unfold EndP; rw [if_neg hlt])
    have hd : ¬ ((n0 : Int) < xs.length) := by omega
    go_enter Try.func53, Try.ntmps53
    go_wp2
    go_quiet (fail)
    go_wp2
    go_ret
    rw [HE.out]
    exact ⟨rfl, HI.out.drewN _, Mod.of_drewN _ w _⟩
end Go.Proofs.Ytlpjeckhejbkkaa
end

section
set_option linter.unusedVariables false
set_option linter.unusedSimpArgs false
set_option maxRecDepth 20000
set_option maxHeartbeats 400000
namespace Go.Proofs.Ytlpjeckhejbkkaa
open Go.RowKit

/-! ### transactions in memory -/
abbrev nodeL (au cl : Int) (pv ov : Value) : List Value := [.int .i64 au, .int .i64 cl, pv, ov]
abbrev nodeV (au cl : Int) (pv ov : Value) : Value := .agg (nodeL au cl pv ov).toArray
theorem rtNode : RowT Try.prog 26 4 := ⟨_, Try.underlying26, rfl, by kernel_rfl⟩
theorem infoHash : (Try.prog.info? 46).map (fun i => (i.zero, i.size, i.bytes)) = some (some GHash.zero.val, 32, 32) := by kernel_rfl
theorem etHashes : ElemT Try.prog 23 46 32 32 := elemT_of Try.underlying23 infoHash (by decide) (by decide)
/-- a transaction in a variable of its own -/
def NodB (w : World) (q : Nat) (au cl : Int) (pv ov : Value) : Prop := Blk w q 26 (nodeL au cl pv ov).toArray
theorem NodB.open_ {w : World} {q : Nat} {au cl : Int} {pv ov : Value} (h : NodB w q au cl pv ov) :
    w.cell? ⟨q, 0, none⟩ = some (.int .i64 au) ∧ w.cell? ⟨q, 1, none⟩ = some (.int .i64 cl) ∧ w.cell? ⟨q, 2, none⟩ = some pv ∧ w.cell? ⟨q, 3, none⟩ = some ov ∧ Hid (CellsAt w q 0 (nodeL au cl pv ov)) :=
  ⟨h.cell 0, h.cell 1, h.cell 2, h.cell 3, Lib.hid (CellsAt.of_blk h)⟩
theorem NodB.frozen {w : World} {q : Nat} {au cl : Int} {pv ov : Value} (h : NodB w q au cl pv ov) (i : Nat) : w.frozen? ⟨q, i, none⟩ = false := Blk.frozen h i
theorem NodB.mod {S : List Nat} {w w' : World} {q : Nat} {au cl : Int} {pv ov : Value} (h : NodB w q au cl pv ov) (hm : Mod S w w') (hq : q ∉ S) : NodB w' q au cl pv ov := Blk.mod h hm hq
theorem NodB.lt {w : World} {q : Nat} {au cl : Int} {pv ov : Value} (h : NodB w q au cl pv ov) : q < w.heap.size := Blk.lt h
section
variable {ops : Array Oper} {rest : List Oper} {op : Oper} {a : Act} {w : World} {Q : Exit → Act → World → Prop}
theorem wpList_box_node (x : Operand) (ho : op.op = .box 26 x) (hgd : Region.wanted op (yielded ops a.tmps) = true) {au cl : Int} {pv ov : Value} (hx : a.eval x = nodeV au cl pv ov)
    (h : ∀ q w1, NodB w1 q au cl pv ov → Mod [] w w1 → w.heap.size ≤ q → q < w1.heap.size → wpList Try.prog ops Q rest (a.put op.dst (.pointer (some ⟨q, 0, none⟩))) w1) : wpList Try.prog ops Q (op :: rest) a w :=
  wpList_box x ho hgd hx h
theorem wpList_load_node (x : Operand) (ho : op.op = .load 26 x) (hgd : Region.wanted op (yielded ops a.tmps) = true) {b k : Nat} {au cl : Int} {pv ov : Value} (H : CellsAt w b k (nodeL au cl pv ov)) (hx : a.eval x = .pointer (some ⟨b, k, none⟩))
    (h : wpList Try.prog ops Q rest (a.put op.dst (nodeV au cl pv ov)) w) : wpList Try.prog ops Q (op :: rest) a w :=
  wpList_load_cells rtNode x ho hgd hx rfl H h
end
section
variable {ops : Array Oper} {rest : List Oper} {op : Oper} {a : Act} {w : World} {Q : Exit → Act → World → Prop}
theorem wpList_store_hashN (x y : Operand) (ho : op.op = .store 46 x y) (hgd : Region.wanted op (yielded ops a.tmps) = true) {g : Nat} {o : GHash} {old : Array Value} (hx : a.eval x = .pointer (some ⟨g, 0, none⟩)) (hy : a.eval y = o.val) (hb : Blk w g 46 old) (hold : old.size = 32)
    (h : ∀ w', Blk w' g 46 o.cells.toArray → Mod [g] w w' → wpList Try.prog ops Q rest (a.put op.dst undef) w') : wpList Try.prog ops Q (op :: rest) a w :=
  wpList_store_blk rtHash x y ho hgd hx hy hb o.cells_length hold o.one h
end
/-- a transaction: its lists in memory -/
structure NodR (w : World) (n : GNode) (gp go : Nat) (pv ov : Value) : Prop where
  ps : HS w gp pv n.parents
  os : OS w go ov n.ops
theorem NodR.mod {S : List Nat} {w w' : World} {n : GNode} {gp go : Nat} {pv ov : Value} (h : NodR w n gp go pv ov) (hm : Mod S w w') (hp : 0 < n.parents.length → gp ∉ S) (ho : 0 < n.ops.length → go ∉ S) : NodR w' n gp go pv ov :=
  ⟨h.ps.mod hm hp, h.os.mod hm ho⟩
theorem NodR.mod0 {w w' : World} {n : GNode} {gp go : Nat} {pv ov : Value} (h : NodR w n gp go pv ov) (hm : Mod [] w w') : NodR w' n gp go pv ov := h.mod hm (by simp) (by simp)
/-- what is wrong with a transaction, as the walk asks -/
def clockBad (cl : Int) (k : Nat) : Bool := !((cl == 1) == ((k : Int) == 0))
theorem clockBad_iff (cl : Int) (k : Nat) : clockBad cl k = true ↔ decide (cl = 1) ≠ decide (k = 0) := by
  unfold clockBad
  have e1 : (cl == 1) = decide (cl = 1) := rfl
  have e2 : ((k : Int) == 0) = decide (k = 0) := by rw [Bool.eq_iff_iff]; simp
  rw [e1, e2]
  cases decide (cl = 1) <;> cases decide (k = 0) <;> simp
theorem cn50 {n : GNode} (h : n.author < 1 ∨ 8 < n.author) : ((50 : Int)) = checkNode n := by unfold checkNode; rw [if_pos h]; rfl
theorem cn51 {n : GNode} (h : 1 ≤ n.author ∧ n.author ≤ 8) (h2 : (n.clock < 1 ∨ 4096 < n.clock) ∨ clockBad n.clock n.parents.length = true) : ((51 : Int)) = checkNode n := by
  unfold checkNode; rw [if_neg (by omega), if_pos (by rw [← clockBad_iff, ← or_assoc]; exact h2)]; rfl
theorem cn52 {n : GNode} (h : 1 ≤ n.author ∧ n.author ≤ 8) (h2 : (1 ≤ n.clock ∧ n.clock ≤ 4096) ∧ clockBad n.clock n.parents.length = false) (h3 : 64 < (n.parents.length : Int) ∨ (!risingFrom [] n.parents) = true) : ((52 : Int)) = checkNode n := by
  unfold checkNode
  rw [if_neg (by omega), if_neg (by rw [← clockBad_iff, h2.2]; simp; omega), if_pos (by rw [Bool.not_eq_true'] at h3; exact h3.imp (by omega) id)]
  rfl
theorem cnops {n : GNode} (h : 1 ≤ n.author ∧ n.author ≤ 8) (h2 : (1 ≤ n.clock ∧ n.clock ≤ 4096) ∧ clockBad n.clock n.parents.length = false) (h3 : (n.parents.length : Int) ≤ 64 ∧ (!risingFrom [] n.parents) = false) : (((checkOps n.ops).1 : Nat) : Int) = checkNode n := by
  unfold checkNode
  rw [if_neg (by omega), if_neg (by rw [← clockBad_iff, h2.2]; simp; omega), if_neg (by have := h3.2; simp at this; rw [this]; simp; omega)]
theorem nodeCheck_any (n : GNode) (gp go : Nat) (pv ov : Value) (w : World) (h : NodR w n gp go pv ov) :
    Calls Try.prog 15 #[nodeV n.author n.clock pv ov] w fun e w' => e = .returned (.int .i64 (checkNode n)) ∧ Mod [] w w' := by
  obtain ⟨hp, hos⟩ := h
  obtain ⟨A, cap, rfl, hc1, hc2⟩ := hp.val
  unfold maxLen at hc2
  have HP := Lib.hid hp; clear hp
  have HO := Lib.hid hos; clear hos
  obtain ⟨au, cl, ps, os⟩ := n
  dsimp only at *
  have h50 := @cn50 ⟨au, cl, ps, os⟩
  have h51 := @cn51 ⟨au, cl, ps, os⟩
  have h52 := @cn52 ⟨au, cl, ps, os⟩
  have hops := @cnops ⟨au, cl, ps, os⟩
  dsimp only at h50 h51 h52 hops
  generalize checkNode ⟨au, cl, ps, os⟩ = c at *
  unfold clockBad at h51 h52 hops
  have H50 := Lib.hid h50
  have H51 := Lib.hid h51
  have H52 := Lib.hid h52
  have HOPS := Lib.hid hops
  clear h50 h51 h52 hops
  go_enter Try.func15, Try.ntmps15
  go_wp2_with (first | ((with_reducible refine wpList_box_node _ rfl ?hgd (au := au) (cl := cl) (pv := .slice A ps.length cap) (ov := ov) ?hx ?_); (case hgd => exact rfl); (case hx => exact rfl); intro q1 w1 hv1 hm1 hq1 hl1; have HV1 := Lib.hid hv1; obtain ⟨c0, c1, c2, c3, HC⟩ := hv1.open_; have HM1 := Lib.hid hm1; clear hv1 hm1) | (go_at_call 31; refine (rising_any ps gp _ w1 (HP.out.mod HM1.out (by simp))).mono ?_; rintro e' w2 ⟨rfl, hm2⟩; have HM2 := Lib.hid (HM1.out.trans hm2); obtain ⟨d0, d1, d2, d3, HD⟩ := (HV1.out.mod hm2 (by simp)).open_; clear hm2))
  all_goals try (go_ret; refine ⟨ret_int ?_, HM1.out⟩; first | exact H50.out (by omega) | exact H51.out (by assumption) (by assumption) | exact H51.out (by assumption) (.inl (by omega)) | exact H52.out (by assumption) (by assumption) (.inl (by assumption)))
  all_goals try (go_ret; refine ⟨ret_int ?_, HM2.out⟩; exact H52.out (by assumption) (by assumption) (by assumption))
  refine (check_any os go ov w2 (HO.out.mod HM2.out (by simp))).mono ?_
  rintro e' w3 ⟨rfl, hm3⟩
  go_wp2_with fail
  go_ret
  exact ⟨ret_int (HOPS.out (by assumption) (by assumption) (by assumption)), HM2.out.trans hm3⟩
end Go.Proofs.Ytlpjeckhejbkkaa
end

section
set_option linter.unusedVariables false
set_option linter.unusedSimpArgs false
set_option maxRecDepth 20000
set_option maxHeartbeats 1600000
namespace Go.Proofs.Ytlpjeckhejbkkaa
open Go.RowKit

theorem checkNode_zero {n : GNode} (h : checkNode n = 0) : (1 ≤ n.author ∧ n.author ≤ 8) ∧ (1 ≤ n.clock ∧ n.clock ≤ 4096) ∧ n.parents.length ≤ 64 ∧ risingFrom [] n.parents = true ∧ (checkOps n.ops).1 = 0 := by
  unfold checkNode at h
  split at h
  · cases h
  split at h
  · cases h
  split at h
  · cases h
  rename_i h1 h2 h3
  refine ⟨by omega, by omega, by omega, ?_, h⟩
  cases hr : risingFrom [] n.parents with
  | true => rfl
  | false => exact absurd (.inr hr) h3
/-- what is laid of a transaction -/
def LayS (w : World) (p : Nat) (F : List Nat) (Z : Bytes) (wr : World) : Prop := OutB wr p F Z ∧ Mod [] w wr ∧ ∀ b ∈ F, w.heap.size ≤ b
theorem LayS.step {w wr w' : World} {p : Nat} {F : List Nat} {Z Z' : Bytes} {e : Ending} (h : LayS w p F Z wr) (hp : OutP wr p F Z' e w') : e = .returned (.tuple #[]) ∧ ∃ F', LayS w p F' Z' w' := by
  obtain ⟨he, F', hO, hm, hf⟩ := hp
  exact ⟨he, F', hO, h.2.1.then hm (fun b hb => .inr (h.2.2 b hb)), fun b hb => (hf b hb).elim (h.2.2 b) (fun h1 => Nat.le_trans h.2.1.size h1)⟩
theorem LayS.mod {w wr w' : World} {p : Nat} {F S : List Nat} {Z : Bytes} (h : LayS w p F Z wr) (hm : Mod S wr w') (hS : ∀ b ∈ S, wr.heap.size ≤ b) : LayS w p F Z w' :=
  ⟨h.1.mod hm (fun b hb h1 => by have := hS b h1; have := h.1.all b hb; omega), h.2.1.then hm (fun b hb => .inr (by have := hS b hb; have := h.2.1.size; omega)), h.2.2⟩
def LayN (w : World) (p : Nat) (F : List Nat) (Z : Bytes) (q : Nat) (au cl : Int) (pv ov : Value) (wr : World) : Prop := LayS w p F Z wr ∧ NodB wr q au cl pv ov ∧ q ∉ F
theorem LayN.step {w wr w' : World} {p q : Nat} {F : List Nat} {Z Z' : Bytes} {au cl : Int} {pv ov : Value} {e : Ending} (h : LayN w p F Z q au cl pv ov wr) (hp : OutP wr p F Z' e w') : e = .returned (.tuple #[]) ∧ ∃ F', LayN w p F' Z' q au cl pv ov w' := by
  obtain ⟨he, F', hO, hm, hf⟩ := hp
  refine ⟨he, F', ⟨hO, h.1.2.1.then hm (fun b hb => .inr (h.1.2.2 b hb)), fun b hb => (hf b hb).elim (h.1.2.2 b) (fun h1 => Nat.le_trans h.1.2.1.size h1)⟩, h.2.1.mod hm h.2.2, fun hq => ?_⟩
  rcases hf q hq with h1 | h1
  · exact h.2.2 h1
  · have := h.2.1.lt; omega
theorem LayN.mod {w wr w' : World} {p q : Nat} {F S : List Nat} {Z : Bytes} {au cl : Int} {pv ov : Value} (h : LayN w p F Z q au cl pv ov wr) (hm : Mod S wr w') (hS : ∀ b ∈ S, wr.heap.size ≤ b) : LayN w p F Z q au cl pv ov w' :=
  ⟨h.1.mod hm hS, h.2.1.mod hm (fun hq => by have := hS q hq; have := h.2.1.lt; omega), h.2.2⟩
/-- in memory of its own, behind all that was -/
def NewB (w : World) (xs : Bytes) (e' : Ending) (w' : World) : Prop := ∃ v, e' = .returned v ∧ OwnB w' v xs ∧ Mod [] w w' ∧ ∀ b ∈ blks v, w.heap.size ≤ b
theorem flatH_length (l : List GHash) : (l.flatMap GHash.l).length = l.length * 32 := flat_length GHash.l 32 (fun h => h.h) l
theorem lay_node_any (n : GNode) (gp go : Nat) (pv ov : Value) (w : World) (h : NodR w n gp go pv ov) (h0 : checkNode n = 0) (hn : ∀ o ∈ n.ops, o.nums) :
    Calls Try.prog 25 #[nodeV n.author n.clock pv ov] w (NewB w (nodeBlock n)) := by
  obtain ⟨hp, hos⟩ := h
  obtain ⟨A, cap, rfl, hc1, hc2⟩ := hp.val
  obtain ⟨ha, hcl, hpl, _, hck⟩ := checkNode_zero h0
  have hol := putOps_length n.ops hck hn
  unfold maxLen at hc2
  have HP := Lib.hid hp; clear hp
  have HO := Lib.hid hos; clear hos
  have HCK := Lib.hid hck; clear hck
  have HN := Lib.hid hn; clear hn
  obtain ⟨au, cl, ps, os⟩ := n
  dsimp only at *
  clear h0
  obtain ⟨a, rfl⟩ : ∃ a : Nat, au = a := ⟨au.toNat, by omega⟩
  obtain ⟨c, rfl⟩ : ∃ c : Nat, cl = c := ⟨cl.toNat, by omega⟩
  have HBLK : Hid (nodeBlock ⟨a, c, ps, os⟩ = [] ++ [1] ++ [UInt8.ofNat a] ++ putNum c ++ putNum ps.length ++ ps.flatMap GHash.l ++ putOps os) := Lib.hid (by simp [nodeBlock])
  have HL1 : Hid ((putNum c).length ≤ 10 ∧ (putNum ps.length).length ≤ 10) := Lib.hid ⟨putNum_length10 _ (by omega), putNum_length10 _ (by omega)⟩
  generalize nodeBlock ⟨a, c, ps, os⟩ = B at *
  go_enter Try.func25, Try.ntmps25
  go_wp2_with (first | ((with_reducible refine wpList_box_node _ rfl ?hgd (au := (a : Int)) (cl := (c : Int)) (pv := .slice A ps.length cap) (ov := ov) ?hx ?_); (case hgd => exact rfl); (case hx => exact rfl); intro q1 w1 hv1 hm1 hq1 hl1; have HV1 := Lib.hid hv1; have HM1 := Lib.hid hm1; clear hv1 hm1))
  refine (newOut_any w1).mono ?_
  rintro e' w2 ⟨rfl, hO2, hm2⟩
  obtain ⟨p, hpe⟩ : ∃ p, w1.heap.size = p := ⟨_, rfl⟩
  have HL2 : Hid (LayN w p [p] [] q1 a c (.slice A ps.length cap) ov w2) := Lib.hid (by rw [← hpe]; exact ⟨⟨hO2, HM1.out.trans hm2, by have := HM1.out.size; simp; omega⟩, HV1.out.mod hm2 (by simp), by simp; omega⟩)
  rw [hpe]
  clear hO2 hm2 hpe HV1 HM1
  generalize [p] = F2 at *
  go_wp2_with fail
  refine (outByte_any p F2 [] 1 1 rfl w2 HL2.out.1.1 (by simp)).mono ?_
  rintro e' w3 hp3
  obtain ⟨rfl, F3, hp3'⟩ := HL2.out.step hp3
  have HL3 := Lib.hid hp3'
  clear hp3 hp3' HL2
  obtain ⟨c0, c1, c2, c3, _⟩ := HL3.out.2.1.open_
  have hwa : IntKind.u8.wrap (a : Int) = (a : Int) := by rw [IntKind.wrap_u8]; omega
  go_wp2_with fail
  refine (outByte_any p F3 _ (UInt8.ofNat a) a (by simp; omega) w3 HL3.out.1.1 (by simp)).mono ?_
  rintro e' w4 hp4
  obtain ⟨rfl, F4, hp4'⟩ := HL3.out.step hp4
  have HL4 := Lib.hid hp4'
  clear hp4 hp4' HL3 c0 c1 c2 c3 hwa
  obtain ⟨c0, c1, c2, c3, _⟩ := HL4.out.2.1.open_
  go_wp2_with fail
  refine (outNumber_any p F4 _ c w4 HL4.out.1.1 (by omega) (by simp)).mono ?_
  rintro e' w5 hp5
  obtain ⟨rfl, F5, hp5'⟩ := HL4.out.step hp5
  have HL5 := Lib.hid hp5'
  clear hp5 hp5' HL4 c0 c1 c2 c3
  obtain ⟨c0, c1, c2, c3, _⟩ := HL5.out.2.1.open_
  go_wp2_with fail
  refine (outNumber_any p F5 _ ps.length w5 HL5.out.1.1 (by omega) (by have := HL1.out.1; simp; omega)).mono ?_
  rintro e' w6 hp6
  obtain ⟨rfl, F6, hp6'⟩ := HL5.out.step hp6
  have HL6 := Lib.hid hp6'
  clear hp6 hp6' HL5 c0 c1 c2 c3
  obtain ⟨c0, c1, c2, c3, _⟩ := HL6.out.2.1.open_
  obtain ⟨Z, hZ⟩ : ∃ Z, [] ++ [1] ++ [UInt8.ofNat a] ++ putNum c ++ putNum ps.length = Z := ⟨_, rfl⟩
  have HZL : Hid (Z.length ≤ 22) := Lib.hid (by rw [← hZ]; have := HL1.out; simp; omega)
  rw [hZ] at HL6 HBLK
  clear hZ HL1
  go_wp2_with fail
  have HGP : Hid (0 < ps.length → gp < w.heap.size) := Lib.hid (fun h0 => by obtain ⟨_, _, _, _, _, hl', _⟩ := HP.out.at_ h0; exact hl')
  have HGO : Hid (0 < os.length → go < w.heap.size) := Lib.hid (fun h0 => by obtain ⟨_, _, _, _, _, hl', _⟩ := HO.out.at_ h0; exact hl')
  clear c0 c1 c2 c3
  go_loopw [28] (fun s28 wr => ∃ (i : Nat) (F : List Nat), s28 = .int .i64 (i : Int) ∧ i ≤ ps.length ∧ Hid (LayN w p F (Z ++ (ps.take i).flatMap GHash.l) q1 a c (.slice A ps.length cap) ov wr)) (fun s _ => ps.length - (intOf s).toNat)
  case atStart => exact ⟨0, F6, rfl, by omega, Lib.hid (by simpa using HL6.out)⟩
  case round =>
    obtain ⟨i, F, rfl, hi, HL⟩ := hrel
    clear HL6
    by_cases hil : i < ps.length
    · obtain ⟨off, cap', hv', _, _, _, hit⟩ := HS.item (HP.out.mod HL.out.1.2.1 (by simp)) (by omega)
      injection hv' with hA _ hcap
      subst hA
      subst hcap
      have HJ := Lib.hid (hit i hil)
      clear hit
      obtain ⟨h, hh⟩ : ∃ h, ps[i] = h := ⟨_, rfl⟩
      have HTK : Hid (ps.take (i + 1) = ps.take i ++ [h]) := Lib.hid (by rw [List.take_succ_eq_append_getElem hil, hh])
      rw [hh] at HJ
      clear hh
      have hlen : (Z ++ (ps.take i).flatMap GHash.l).length ≤ 2100 := by
        rw [List.length_append, flatH_length, List.length_take]
        have := HZL.out
        omega
      have HLEN := Lib.hid hlen
      clear hlen
      go_wp2_with (first | ((with_reducible refine wpList_load_hash _ rfl ?hgd HJ.out ?hx ?_); (case hgd => exact rfl); (case hx => exact rfl)) | ((with_reducible refine wpList_store_hashN (o := h) _ _ rfl ?hgd ?hx ?hy (Blk.new _ _ _) ?hold ?_); (case hgd => exact rfl); (case hx => exact rfl); (case hy => exact rfl); (case hold => exact rfl); intro w7 hb7 hm7; have HH7 : Hid (HashAt w7 wr.heap.size 0 h) := Lib.hid (CellsAt.of_blk hb7); have HL7 := Lib.hid (HL.out.mod (((Mod.refl [] wr).alloc _).then hm7 (by simp) : Mod [] wr w7) (by simp)); clear hb7 hm7) | ((with_reducible refine wpList_load_hash _ rfl ?hgd HH7.out ?hx ?_); (case hgd => exact rfl); (case hx => exact rfl)))
      refine (outHash_any p F _ h w7 HL7.out.1.1 (by have := HLEN.out; omega)).mono ?_
      rintro e' w8 hp8
      obtain ⟨rfl, F8, hp8'⟩ := HL7.out.step hp8
      have HL8 : Hid (LayN w p F8 (Z ++ (ps.take (i + 1)).flatMap GHash.l) q1 a c (.slice (some ⟨gp, off, none⟩) ps.length cap) ov w8) := Lib.hid (by rw [HTK.out]; simpa using hp8')
      clear hp8 hp8' HL7 HL HH7
      go_wp2_with fail
      go_roundw
      case rel => exact ⟨i + 1, F8, by go_num, by omega, HL8⟩
      case measure => simp [intOf]; omega
    · have hie : i = ps.length := by omega
      subst hie
      rw [List.take_length] at HL
      obtain ⟨c0, c1, c2, c3, _⟩ := HL.out.2.1.open_
      have hzl : (Z ++ ps.flatMap GHash.l).length ≤ 2100 := by
        rw [List.length_append, flatH_length]
        have := HZL.out
        omega
      have HZ2 := Lib.hid hzl
      have HPUT := Lib.hid (put_any os go _ p F _ wr HL.out.1.1 (HO.out.mod HL.out.1.2.1 (by simp)) (fun h0 hb => by have := HGO.out h0; have := HL.out.1.2.2 _ hb; omega) HN.out (by omega))
      clear hzl
      go_wp2_with fail
      refine HPUT.out.mono ?_
      rintro e' w8 ⟨rfl, F8, hO8, hm8, hf8⟩
      rw [if_pos HCK.out, ← HBLK.out] at hO8
      have hLS : LayS w p F8 B w8 := ⟨hO8, HL.out.1.2.1.then hm8 (fun b hb => .inr (HL.out.1.2.2 b hb)), fun b hb => (hf8 b hb).elim (HL.out.1.2.2 b) (fun h1 => Nat.le_trans HL.out.1.2.1.size h1)⟩
      have HL8 := Lib.hid hLS
      have HDN := Lib.hid (outDone_any p F8 _ w8 hO8 (by rw [HBLK.out, List.length_append]; have := HZ2.out; omega))
      clear hO8 hm8 hf8 hLS HL HPUT c0 c1 c2 c3
      go_wp2_with fail
      refine HDN.out.mono ?_
      rintro e' w9 ⟨v9, rfl, hown9, hm9, hf9⟩
      obtain ⟨A9, cap9, rfl, _, _⟩ := hown9.val
      have HOWN := Lib.hid hown9
      have HM9 := Lib.hid (HL8.out.2.1.trans hm9)
      have HF9 := Lib.hid (fun b hb => Nat.le_trans HL8.out.2.1.size (hf9 b hb))
      clear hown9 hm9 hf9
      go_wp2_with fail
      go_ret
      exact ⟨_, rfl, HOWN.out, HM9.out, HF9.out⟩
/-! ### a transaction's block, and its size -/
theorem nodeBlock_length {n : GNode} (h0 : checkNode n = 0) (hn : ∀ o ∈ n.ops, o.nums) : (nodeBlock n).length ≤ 307300000 := by
  obtain ⟨ha, hcl, hpl, _, hck⟩ := checkNode_zero h0
  have h1 := putOps_length n.ops hck hn
  have h2 := putNum_length10 n.clock.toNat (by omega)
  have h3 := putNum_length10 n.parents.length (by omega)
  unfold nodeBlock
  rw [List.length_cons, List.length_cons, List.length_append, List.length_append, List.length_append, flatH_length]
  omega
def encOf (n : GNode) : Bytes × Nat := if checkNode n = 0 then (if 1048576 < (nodeBlock n).length then ([], 4) else (nodeBlock n, 0)) else ([], checkNode n)
def sizeOf_ (n : GNode) : Nat := if checkNode n = 0 then (nodeBlock n).length else 0
def EncP (w : World) (r : Bytes × Nat) (e' : Ending) (w' : World) : Prop := ∃ v, e' = .returned (.tuple #[v, .int .i64 r.2]) ∧ OwnB w' v r.1 ∧ Mod [] w w' ∧ ∀ b ∈ blks v, w.heap.size ≤ b
theorem blks_nil {w n c : Nat} : ∀ b ∈ blks (.slice none n c), w ≤ b := by intro b hb; simp [blks, Value.ownBlock] at hb
theorem encode_any (n : GNode) (gp go : Nat) (pv ov : Value) (w : World) (h : NodR w n gp go pv ov) (hn : ∀ o ∈ n.ops, o.nums) :
    Calls Try.prog 10 #[nodeV n.author n.clock pv ov] w (EncP w (encOf n)) := by
  have HR := Lib.hid h; clear h
  have HCH : Hid (∀ W, Mod [] w W → Calls Try.prog 15 #[nodeV n.author n.clock pv ov] W fun e w' => e = .returned (.int .i64 (checkNode n)) ∧ Mod [] W w') := Lib.hid (fun W hW => nodeCheck_any n gp go pv ov W (HR.out.mod0 hW))
  have HLY : Hid (∀ W, Mod [] w W → checkNode n = 0 → Calls Try.prog 25 #[nodeV n.author n.clock pv ov] W (NewB W (nodeBlock n))) := Lib.hid (fun W hW h0 => lay_node_any n gp go pv ov W (HR.out.mod0 hW) h0 hn)
  have HBL : Hid (checkNode n = 0 → (nodeBlock n).length ≤ 307300000) := Lib.hid (fun h0 => nodeBlock_length h0 hn)
  clear HR hn
  have HE1 : Hid (checkNode n = 0 → 1048576 < (nodeBlock n).length → encOf n = ([], 4)) := Lib.hid (fun h h' => by unfold encOf; rw [if_pos h, if_pos h'])
  have HE2 : Hid (checkNode n = 0 → ¬ 1048576 < (nodeBlock n).length → encOf n = (nodeBlock n, 0)) := Lib.hid (fun h h' => by unfold encOf; rw [if_pos h, if_neg h'])
  have HE3 : Hid (checkNode n ≠ 0 → encOf n = ([], checkNode n)) := Lib.hid (fun h => by unfold encOf; rw [if_neg h])
  generalize encOf n = r at *
  generalize nodeBlock n = B at *
  generalize checkNode n = c at *
  generalize n.author = au at *
  generalize n.clock = cl at *
  go_enter Try.func10, Try.ntmps10
  go_wp2_with (first | ((with_reducible refine wpList_box_node _ rfl ?hgd (au := au) (cl := cl) (pv := pv) (ov := ov) ?hx ?_); (case hgd => exact rfl); (case hx => exact rfl); intro q1 w1 hv1 hm1 hq1 hl1; have HV1 := Lib.hid hv1; obtain ⟨_, _, _, _, HC⟩ := hv1.open_; have HM1 := Lib.hid hm1; clear hv1 hm1) | ((with_reducible refine wpList_load_node _ rfl ?hgd HC.out ?hx ?_); (case hgd => exact rfl); (case hx => exact rfl)))
  refine (HCH.out w1 HM1.out).mono ?_
  rintro e' w2 ⟨rfl, hm2⟩
  have HM2 := Lib.hid (HM1.out.trans hm2)
  obtain ⟨_, _, _, _, HC2⟩ := (HV1.out.mod hm2 (by simp)).open_
  clear hm2 HM1 HV1 HCH
  by_cases h0 : c = 0
  · subst h0
    have hcc : (((0 : Nat) : Int) == 0) = true := rfl
    have HBL2 := Lib.hid (HBL.out rfl)
    have HLY2 := Lib.hid (HLY.out w2 HM2.out rfl)
    have HF1 := Lib.hid (HE1.out rfl)
    have HF2 := Lib.hid (HE2.out rfl)
    clear HBL HLY HE1 HE2 HE3
    go_wp2_with (first | ((with_reducible refine wpList_load_node _ rfl ?hgd HC2.out ?hx ?_); (case hgd => exact rfl); (case hx => exact rfl)))
    refine HLY2.out.mono ?_
    rintro e' w3 ⟨v3, rfl, hown, hm3, hf3⟩
    obtain ⟨A3, cap3, rfl, hx1, hx2⟩ := hown.val
    unfold maxLen at hx2
    have HOWN := Lib.hid hown
    have HM3 := Lib.hid (HM2.out.trans hm3)
    have HF3 := Lib.hid (fun b hb => Nat.le_trans HM2.out.size (hf3 b hb))
    clear hown hm3 hf3 HLY2
    by_cases hbig : 1048576 < B.length
    · have HB := Lib.hid hbig
      have hbi : (1048576 : Int) < B.length := by omega
      go_wp2_with fail
      go_ret2
      rw [HF1.out HB.out]
      exact ⟨_, rfl, OwnB.nil _, HM3.out, blks_nil⟩
    · have HB := Lib.hid hbig
      have hbi : ¬ ((1048576 : Int) < B.length) := by omega
      go_wp2_with fail
      go_ret2
      rw [HF2.out HB.out]
      exact ⟨_, rfl, HOWN.out, HM3.out, HF3.out⟩
  · have hcc : (((c : Nat) : Int) == 0) = false := by simp; omega
    have hcn : ¬ ((c : Int) = 0) := by omega
    have H0 := Lib.hid h0
    clear HBL HLY
    go_wp2_with (first | ((with_reducible refine wpList_load_node _ rfl ?hgd HC2.out ?hx ?_); (case hgd => exact rfl); (case hx => exact rfl)))
    go_ret2
    rw [HE3.out H0.out]
    exact ⟨_, rfl, OwnB.nil _, HM2.out, blks_nil⟩
theorem nodeSize_any (n : GNode) (gp go : Nat) (pv ov : Value) (w : World) (h : NodR w n gp go pv ov) (hn : ∀ o ∈ n.ops, o.nums) :
    Calls Try.prog 17 #[nodeV n.author n.clock pv ov] w fun e w' => e = .returned (.int .i64 (sizeOf_ n)) ∧ Mod [] w w' := by
  have HR := Lib.hid h; clear h
  have HCH : Hid (∀ W, Mod [] w W → Calls Try.prog 15 #[nodeV n.author n.clock pv ov] W fun e w' => e = .returned (.int .i64 (checkNode n)) ∧ Mod [] W w') := Lib.hid (fun W hW => nodeCheck_any n gp go pv ov W (HR.out.mod0 hW))
  have HLY : Hid (∀ W, Mod [] w W → checkNode n = 0 → Calls Try.prog 25 #[nodeV n.author n.clock pv ov] W (NewB W (nodeBlock n))) := Lib.hid (fun W hW h0 => lay_node_any n gp go pv ov W (HR.out.mod0 hW) h0 hn)
  clear HR hn
  have HE1 : Hid (checkNode n = 0 → sizeOf_ n = (nodeBlock n).length) := Lib.hid (fun h => by unfold sizeOf_; rw [if_pos h])
  have HE3 : Hid (checkNode n ≠ 0 → sizeOf_ n = 0) := Lib.hid (fun h => by unfold sizeOf_; rw [if_neg h])
  generalize sizeOf_ n = r at *
  generalize nodeBlock n = B at *
  generalize checkNode n = c at *
  generalize n.author = au at *
  generalize n.clock = cl at *
  go_enter Try.func17, Try.ntmps17
  go_wp2_with (first | ((with_reducible refine wpList_box_node _ rfl ?hgd (au := au) (cl := cl) (pv := pv) (ov := ov) ?hx ?_); (case hgd => exact rfl); (case hx => exact rfl); intro q1 w1 hv1 hm1 hq1 hl1; have HV1 := Lib.hid hv1; obtain ⟨_, _, _, _, HC⟩ := hv1.open_; have HM1 := Lib.hid hm1; clear hv1 hm1) | ((with_reducible refine wpList_load_node _ rfl ?hgd HC.out ?hx ?_); (case hgd => exact rfl); (case hx => exact rfl)))
  refine (HCH.out w1 HM1.out).mono ?_
  rintro e' w2 ⟨rfl, hm2⟩
  have HM2 := Lib.hid (HM1.out.trans hm2)
  obtain ⟨_, _, _, _, HC2⟩ := (HV1.out.mod hm2 (by simp)).open_
  clear hm2 HM1 HV1 HCH
  by_cases h0 : c = 0
  · subst h0
    have hcc : (((0 : Nat) : Int) == 0) = true := rfl
    have HLY2 := Lib.hid (HLY.out w2 HM2.out rfl)
    have HF1 := Lib.hid (HE1.out rfl)
    clear HLY HE1 HE3
    go_wp2_with (first | ((with_reducible refine wpList_load_node _ rfl ?hgd HC2.out ?hx ?_); (case hgd => exact rfl); (case hx => exact rfl)))
    refine HLY2.out.mono ?_
    rintro e' w3 ⟨v3, rfl, hown, hm3, hf3⟩
    obtain ⟨A3, cap3, rfl, hx1, hx2⟩ := hown.val
    have HM3 := Lib.hid (HM2.out.trans hm3)
    clear hown hm3 hf3 HLY2
    go_wp2_with fail
    go_ret
    rw [HF1.out]
    exact ⟨rfl, HM3.out⟩
  · have hcc : (((c : Nat) : Int) == 0) = false := by simp; omega
    have hcn : ¬ ((c : Int) = 0) := by omega
    have H0 := Lib.hid h0
    clear HLY
    go_wp2_with (first | ((with_reducible refine wpList_load_node _ rfl ?hgd HC2.out ?hx ?_); (case hgd => exact rfl); (case hx => exact rfl)))
    go_ret
    rw [HE3.out H0.out]
    exact ⟨rfl, HM2.out⟩
end Go.Proofs.Ytlpjeckhejbkkaa
end

section
set_option linter.unusedVariables false
set_option linter.unusedSimpArgs false
set_option maxRecDepth 20000
set_option maxHeartbeats 800000
namespace Go.Proofs.Ytlpjeckhejbkkaa
open Go.RowKit

/-! ### the reader of a block: what it reads, or a panic with the first thing that is wrong -/
theorem stop_any (r p q : Nat) (re : Value) (w : World) (hr : Blk w r 67 #[ptr p, re]) :
    Calls Try.prog 52 #[ptr r, badV q] w fun e w' => e = .panicked [{ v := badV q, recovered := false }] ∧ Blk w' r 67 #[ptr p, badV q] ∧ Mod [r] w w' := by
  have c0 := hr.cell 1
  have f0 := hr.frozen 1
  have HR := Lib.hid hr; clear hr
  unfold badV
  go_enter Try.func52, Try.ntmps52
  go_wp2
  exact ⟨rfl, rfl, HR.out.set_ 1 _, (Mod.refl [r] w).setCell _ (by simp) _⟩
def RdrB (w : World) (r p g : Nat) (xs : Bytes) (n0 : Nat) : Prop := Blk w r 67 #[ptr p, .nilIface] ∧ InB w p g xs n0 .nilIface ∧ (0 < xs.length → g ≠ r)
theorem RdrB.ne {w : World} {r p g : Nat} {xs : Bytes} {n0 : Nat} (h : RdrB w r p g xs n0) : r ≠ p := by
  obtain ⟨v, hb, _⟩ := h.2.1
  exact Blk.ne_ h.1 hb (by decide)
theorem RdrB.mod {S : List Nat} {w w' : World} {r p g : Nat} {xs : Bytes} {n0 : Nat} (h : RdrB w r p g xs n0) (hm : Mod S w w') (hp : p ∉ S) (hr : r ∉ S) (hg : 0 < xs.length → g ∉ S) : RdrB w' r p g xs n0 :=
  ⟨h.1.mod hm hr, h.2.1.mod hm hp hg, h.2.2⟩
theorem RdrB.mod0 {w w' : World} {r p g : Nat} {xs : Bytes} {n0 : Nat} (h : RdrB w r p g xs n0) (hm : Mod [] w w') : RdrB w' r p g xs n0 := h.mod hm (by simp) (by simp) (by simp)
theorem RdrB.step {w w' : World} {r p g : Nat} {xs : Bytes} {n0 n1 : Nat} (h : RdrB w r p g xs n0) (hI : InB w' p g xs n1 .nilIface) (hm : Mod [p] w w') : RdrB w' r p g xs n1 :=
  ⟨h.1.mod hm (by simpa using h.ne), hI, h.2.2⟩
theorem RdrB.cells {w : World} {r p g : Nat} {xs : Bytes} {n0 : Nat} (h : RdrB w r p g xs n0) : w.cell? ⟨r, 0, none⟩ = some (ptr p) ∧ r < w.heap.size ∧ p < w.heap.size := ⟨h.1.cell 0, h.1.lt, h.2.1.lt⟩
def StopP (w : World) (r p : Nat) (why at_ : Nat) (e' : Ending) (w' : World) : Prop :=
  ∃ q, e' = .panicked [{ v := badV q, recovered := false }] ∧ BadAt w' q why at_ ∧ Blk w' r 67 #[ptr p, badV q] ∧ Mod [p, r] w w' ∧ w.heap.size ≤ q
/-- what a reader's method answers, or how it stops -/
def RxP {α : Type} (w : World) (r p g : Nat) (xs : Bytes) (res : Rd α) (val : α → Value) (e' : Ending) (w' : World) : Prop :=
  match res with
  | .ok a pos => e' = .returned (val a) ∧ RdrB w' r p g xs pos ∧ Mod [p, r] w w'
  | .bad why at_ => StopP w r p why at_ e' w'
theorem stopP {w w1 w2 : World} {r p q : Nat} {why at_ : Nat} (hb : BadAt w1 q why at_) (hm : Mod [p] w w1) (hq : w.heap.size ≤ q) (hr : Blk w2 r 67 #[ptr p, badV q]) (hm2 : Mod [r] w1 w2) (hlt : r < w.heap.size) :
    StopP w r p why at_ (.panicked [{ v := badV q, recovered := false }]) w2 :=
  ⟨q, rfl, Blk.mod hb hm2 (by simp; omega), hr, (hm.mono (by simp)).trans (hm2.mono (by simp)), hq⟩
theorem rdrByte_any (r p g : Nat) (xs : Bytes) (w : World) (n0 : Nat) (h : RdrB w r p g xs n0) (hn : n0 ≤ xs.length) :
    Calls Try.prog 46 #[ptr r] w (RxP w r p g xs (rdByte xs n0) bv) := by
  obtain ⟨c0, hl, _⟩ := h.cells
  have HB := Lib.hid (inByte_any p g xs w n0 h.2.1 hn)
  have HR := Lib.hid h; clear h
  generalize rdByte xs n0 = res at *
  cases res with
  | ok a pos =>
    go_enter Try.func46, Try.ntmps46
    go_wp2_with fail
    refine HB.out.mono ?_
    rintro e' w1 ⟨rfl, hI1, hm1⟩
    have HR1 := Lib.hid (HR.out.step hI1 hm1)
    go_wp2_with fail
    go_ret
    exact ⟨rfl, HR1.out, hm1.mono (by simp)⟩
  | bad why at_ =>
    go_enter Try.func46, Try.ntmps46
    go_wp2_with fail
    refine HB.out.mono ?_
    rintro e' w1 ⟨q, rfl, hb, hI1, hm1, hq⟩
    have HB1 := Lib.hid hb
    have HM1 := Lib.hid hm1
    have HST := Lib.hid (stop_any r p q .nilIface w1 (HR.out.1.mod hm1 (by simpa using HR.out.ne)))
    clear hb hI1 hm1
    unfold badV
    go_wp2_with fail
    refine HST.out.mono ?_
    rintro e' w2 ⟨rfl, hr2, hm2⟩
    exact ⟨rfl, stopP HB1.out HM1.out hq hr2 hm2 hl⟩
theorem rdrBad_no (r : Nat) (why at_ : Int) (w : World) : Calls Try.prog 45 #[ptr r, .bool false, .int .i64 why, .int .i64 at_] w fun e w' => e = .returned (.tuple #[]) ∧ w = w' := by
  go_enter Try.func45, Try.ntmps45
  go_wp2
  go_end0
  exact ⟨rfl, rfl⟩
theorem rdrBad_yes (r p g : Nat) (xs : Bytes) (n0 : Nat) (why at_ : Nat) (w : World) (h : RdrB w r p g xs n0) :
    Calls Try.prog 45 #[ptr r, .bool true, .int .i64 why, .int .i64 at_] w (StopP w r p why at_) := by
  obtain ⟨c0, hl, _⟩ := h.cells
  have HR := Lib.hid h; clear h
  go_enter Try.func45, Try.ntmps45
  go_wp2_with fail
  have hm1 : Mod [p] w (w.alloc (.cells #[.int .i64 why, .int .i64 at_] 62)) := (Mod.refl [p] w).alloc _
  have hb : BadAt (w.alloc (.cells #[.int .i64 why, .int .i64 at_] 62)) w.heap.size why at_ := Blk.new w _ _
  have HST := Lib.hid (stop_any r p w.heap.size .nilIface _ (HR.out.1.alloc (.cells #[.int .i64 why, .int .i64 at_] 62)))
  refine HST.out.mono ?_
  rintro e' w2 ⟨rfl, hr2, hm2⟩
  exact ⟨rfl, stopP hb hm1 (Nat.le_refl _) hr2 hm2 hl⟩
theorem rdrNumber_any (most : Nat) (r p g : Nat) (xs : Bytes) (w : World) (n0 : Nat) (h : RdrB w r p g xs n0) (hn : n0 ≤ xs.length) (hm : most < 9223372036854775808) :
    Calls Try.prog 47 #[ptr r, .int .i64 most] w (RxP w r p g xs (rdNum xs n0 most) (fun x => .int .i64 (x : Nat))) := by
  obtain ⟨c0, hl, _⟩ := h.cells
  have HB := Lib.hid (inNumber_any most p g xs w n0 h.2.1 hn (by omega))
  have hok := @rdNum_ok xs n0 most
  have HR := Lib.hid h; clear h
  have hw : IntKind.u64.wrap (most : Int) = (most : Int) := by rw [IntKind.wrap_u64]; omega
  generalize rdNum xs n0 most = res at *
  cases res with
  | ok a pos =>
    obtain ⟨hx, _, _, _⟩ := hok rfl hn
    have hw2 : IntKind.i64.wrap (a : Int) = (a : Int) := IntWalk.i64_in _ (by omega)
    clear hok
    go_enter Try.func47, Try.ntmps47
    go_wp2_with fail
    refine HB.out.mono ?_
    rintro e' w1 ⟨rfl, hI1, hm1⟩
    have HR1 := Lib.hid (HR.out.step hI1 hm1)
    go_wp2_with fail
    go_ret
    exact ⟨rfl, HR1.out, hm1.mono (by simp)⟩
  | bad why at_ =>
    clear hok
    go_enter Try.func47, Try.ntmps47
    go_wp2_with fail
    refine HB.out.mono ?_
    rintro e' w1 ⟨q, rfl, hb, hI1, hm1, hq⟩
    have HB1 := Lib.hid hb
    have HM1 := Lib.hid hm1
    have HST := Lib.hid (stop_any r p q .nilIface w1 (HR.out.1.mod hm1 (by simpa using HR.out.ne)))
    clear hb hI1 hm1
    unfold badV
    go_wp2_with fail
    refine HST.out.mono ?_
    rintro e' w2 ⟨rfl, hr2, hm2⟩
    exact ⟨rfl, stopP HB1.out HM1.out hq hr2 hm2 hl⟩
theorem rdrHash_any (r p g : Nat) (xs : Bytes) (w : World) (n0 : Nat) (h : RdrB w r p g xs n0) (hn : n0 ≤ xs.length) :
    Calls Try.prog 49 #[ptr r] w (RxP w r p g xs (rdHash xs n0) GHash.val) := by
  obtain ⟨c0, hl, _⟩ := h.cells
  have HIN := Lib.hid (fun W (hW : InB W p g xs n0 .nilIface) => inHash_any p g xs W n0 hW hn)
  have HR := Lib.hid h; clear h
  generalize rdHash xs n0 = res at *
  cases res with
  | ok a pos =>
    go_enter Try.func49, Try.ntmps49
    go_wp2_with fail
    rw [zero32]
    have HR0 := Lib.hid (HR.out.mod0 ((Mod.refl [] w).alloc (.cells GHash.zero.cells.toArray 46)))
    refine (HIN.out _ HR0.out.2.1).mono ?_
    rintro e' w1 ⟨rfl, hI1, hm1⟩
    have HR1 := Lib.hid (HR0.out.step hI1 hm1)
    have hb1 : Blk w1 w.heap.size 46 GHash.zero.cells.toArray := (Blk.new w _ _).mod hm1 (by have := HR.out.cells; simp; omega)
    have HB1 := Lib.hid hb1
    have HM1 : Hid (Mod [p, r] w w1) := Lib.hid ((((Mod.refl [p, r] w).alloc _).then hm1 (by simp)))
    have HSZ : Hid (w.heap.size < w1.heap.size) := Lib.hid hb1.lt
    clear hb1 hm1 hI1 HR0
    go_wp2_with (first | ((with_reducible refine wpList_store_hashN (o := a) _ _ rfl ?hgd ?hx ?hy (Blk.new _ _ _) ?hold ?_); (case hgd => exact rfl); (case hx => exact rfl); (case hy => exact rfl); (case hold => exact rfl); intro w2 hb2 hm2; have HB2 : Hid (HashAt w2 w1.heap.size 0 a) := Lib.hid (CellsAt.of_blk hb2); have HM2 : Hid (Mod [] w1 w2) := Lib.hid (((Mod.refl [] w1).alloc _).then hm2 (by simp)); have HB3 : Hid (Blk w2 w.heap.size 46 GHash.zero.cells.toArray) := Lib.hid (HB1.out.mod HM2.out (by simp)); clear hb2 hm2) | ((with_reducible refine wpList_load_hash _ rfl ?hgd HB2.out ?hx ?_); (case hgd => exact rfl); (case hx => exact rfl)) | ((with_reducible refine wpList_store_hashN (o := a) _ _ rfl ?hgd ?hx ?hy HB3.out ?hold ?_); (case hgd => exact rfl); (case hx => exact rfl); (case hy => exact rfl); (case hold => exact rfl); intro w3 hb3 hm3; have HB4 := Lib.hid hb3; have HM3 := Lib.hid hm3; clear hb3 hm3))
    refine bodyPost_ret (results_row rtHash rfl rfl HB4.out (by simp [GHash.cells_length])) rfl ?_
    have hlt := HR.out.cells
    have hg : 0 < xs.length → g ≠ w.heap.size := fun h0 => by
      obtain ⟨v, _, hr, _⟩ := HR.out.2.1
      obtain ⟨_, _, _, _, _, hl', _⟩ := hr.at_ h0
      omega
    refine ⟨rfl, (HR1.out.mod0 HM2.out).mod HM3.out (by simp; omega) (by simp; omega) (fun h0 => by simpa using hg h0), (HM1.out.trans (HM2.out.mono (by simp))).then HM3.out (by simp)⟩
  | bad why at_ =>
    go_enter Try.func49, Try.ntmps49
    go_wp2_with fail
    rw [zero32]
    have HR0 := Lib.hid (HR.out.mod0 ((Mod.refl [] w).alloc (.cells GHash.zero.cells.toArray 46)))
    refine (HIN.out _ HR0.out.2.1).mono ?_
    rintro e' w1 ⟨q, rfl, hb, hI1, hm1, hq⟩
    have hm01 : Mod [p] w w1 := ((Mod.refl [p] w).alloc _).trans hm1
    have HB1 := Lib.hid hb
    have HM1 := Lib.hid hm01
    have HQ : Hid (w.heap.size ≤ q) := Lib.hid (by simp at hq; omega)
    have HRB : Hid (Blk w1 r 67 #[ptr p, .nilIface]) := Lib.hid (HR.out.1.mod hm01 (by simpa using HR.out.ne))
    clear hb hI1 hm1 hm01 hq HR0
    unfold badV
    go_wp2_with (first | ((with_reducible refine wpList_store_hashN (o := GHash.zero) _ _ rfl ?hgd ?hx ?hy (Blk.new _ _ _) ?hold ?_); (case hgd => exact rfl); (case hx => exact rfl); (case hy => exact rfl); (case hold => exact rfl); intro w2 hb2 hm2; have HM2 : Hid (Mod [] w1 w2) := Lib.hid (((Mod.refl [] w1).alloc _).then hm2 (by simp)); clear hb2 hm2))
    have HST := Lib.hid (stop_any r p q .nilIface w2 (HRB.out.mod HM2.out (by simp)))
    refine HST.out.mono ?_
    rintro e' w3 ⟨rfl, hr3, hm3⟩
    exact ⟨rfl, stopP (Blk.mod HB1.out HM2.out (by simp)) (HM1.out.trans (HM2.out.mono (by simp))) HQ.out hr3 hm3 hl⟩
end Go.Proofs.Ytlpjeckhejbkkaa
end

section
set_option linter.unusedVariables false
set_option linter.unusedSimpArgs false
set_option maxRecDepth 20000
set_option maxHeartbeats 400000
namespace Go.Proofs.Ytlpjeckhejbkkaa
open Go.ChangeShapes Go.WideShapes Go.ChangeAt Go.RowKit

variable {H : Type} {enc : TypeId × Value → H} {w : World} {base : Nat} {spare : Nat → Bool} {held : Bool} {fuel : Nat} {x : DataW H × List MemPlace}
theorem one_of_take {cs : List Value} {i : Nat} {v : Value} (h : (cs.drop i).take 1 = [v]) : cs[i]? = some v := by
  have := congrArg (fun l => l[0]?) h
  simpa using this
theorem bytes_of_cells (cs : List Value) (h : ∀ i, i < cs.length → ∃ n : Int, cs[i]? = some (.int .u8 n) ∧ (Lit.int .u8 n).wf = true) : ∃ l : Bytes, cs = l.map bv ∧ l.length = cs.length := by
  induction cs with
  | nil => exact ⟨[], rfl, rfl⟩
  | cons c cs ih =>
    obtain ⟨l, hl, hn⟩ := ih (fun i hi => by simpa using h (i + 1) (by simpa using hi))
    obtain ⟨n, hc, hw⟩ := h 0 (by simp)
    have hb := bounds_u8 hw
    refine ⟨UInt8.ofNat n.toNat :: l, ?_, by simp [hn]⟩
    have e : c = .int .u8 n := by simpa using hc
    rw [List.map_cons, ← hl, e]
    congr 1
    simp only [Value.int.injEq, true_and]
    have : (UInt8.ofNat n.toNat).toNat = n.toNat := by simp; omega
    rw [this]; omega
theorem open_hash {cs : List Value} (h : DataW.trod enc Try.prog w base spare held fuel 46 cs = some x) : ∃ a : GHash, cs = a.cells := by
  obtain ⟨xs, m, _, _, hl, hn, he⟩ := DataW.trod_array Try.underlying46 h
  have c1 : Try.prog.cellsOf 5 = 1 := by kernel_rfl
  have c32 : Try.prog.cellsOf 46 = 32 := by kernel_rfl
  rw [c32] at hl
  obtain ⟨l, hcs, hlen⟩ := bytes_of_cells cs (fun i hi => by
    have h1 := he i (by omega)
    rw [c1, Nat.mul_one, List.getElem?_eq_getElem (by omega)] at h1
    obtain ⟨n, h2, _, h3⟩ := DataW.trod_int Try.underlying5 h1
    exact ⟨n, one_of_take h2, h3⟩)
  exact ⟨⟨l, by omega⟩, hcs⟩
def GIdent.nums (a : GIdent) : Prop := -9223372036854775808 ≤ a.op ∧ a.op ≤ 9223372036854775807
theorem open_ident {cs : List Value} (h : DataW.trod enc Try.prog w base spare held fuel 72 cs = some x) : ∃ a : GIdent, cs = a.cells ∧ a.nums := by
  obtain ⟨y0, y1, n, _, hl, h0, h1⟩ := trod_struct2 Try.underlying72 h
  have c33 : Try.prog.cellsOf 72 = 33 := by kernel_rfl
  have c32 : Try.prog.cellsOf 46 = 32 := by kernel_rfl
  have c1 : Try.prog.cellsOf 3 = 1 := by kernel_rfl
  rw [c33] at hl
  rw [c32] at h0
  rw [c1] at h1
  obtain ⟨a, ha⟩ := open_hash h0
  obtain ⟨m, h2, _, h3⟩ := DataW.trod_int Try.underlying3 h1
  refine ⟨⟨a, m⟩, ?_, bounds_i64 h3⟩
  have e : cs = (cs.drop 0).take 32 ++ (cs.drop 32).take 1 := by
    have e1 : (cs.drop 32).take 1 = cs.drop 32 := List.take_of_length_le (by simp; omega)
    rw [e1, List.drop_zero, List.take_append_drop]
  rw [e, ha, h2]
  rfl
theorem five {α : Type} (cs : List α) (a b c d : α) (r : List α) (hl : cs.length = 37) (h0 : (cs.drop 0).take 1 = [a]) (h1 : (cs.drop 1).take 1 = [b]) (h2 : (cs.drop 2).take 1 = [c]) (h3 : (cs.drop 3).take 1 = [d]) (h4 : (cs.drop 4).take 33 = r) : cs = a :: b :: c :: d :: r := by
  match cs, hl with
  | x0 :: x1 :: x2 :: x3 :: t, hl =>
    simp only [List.drop_zero, List.drop_succ_cons, List.take_succ_cons, List.take_zero, List.cons.injEq, and_true] at h0 h1 h2 h3 h4
    have e : t.take 33 = t := List.take_of_length_le (by simp at hl; omega)
    rw [e] at h4
    rw [h0, h1, h2, h3, h4]
theorem open_op {cs : List Value} (h : DataW.trod enc Try.prog w base spare held fuel 74 cs = some x) : ∃ o : GOp, cs = o.cells ∧ o.nums ∧ o.at_.nums := by
  obtain ⟨xs, n, _, _, hl, hn, hf⟩ := DataW.trod_struct Try.underlying74 h
  have c37 : Try.prog.cellsOf 74 = 37 := by kernel_rfl
  have c33 : Try.prog.cellsOf 72 = 33 := by kernel_rfl
  have c1 : Try.prog.cellsOf 3 = 1 := by kernel_rfl
  have c2 : Try.prog.cellsOf 9 = 1 := by kernel_rfl
  have c3 : Try.prog.cellsOf 2 = 1 := by kernel_rfl
  rw [c37] at hl
  match xs, hn with
  | [y0, y1, y2, y3, y4], _ =>
    have h0 := hf 0 ⟨"Kind", 3, 0, false, "", "", 0⟩ rfl
    have h1 := hf 1 ⟨"Key", 9, 1, false, "", "", 8⟩ rfl
    have h2 := hf 2 ⟨"Text", 9, 2, false, "", "", 24⟩ rfl
    have h3 := hf 3 ⟨"N", 2, 3, false, "", "", 40⟩ rfl
    have h4 := hf 4 ⟨"At", 72, 4, false, "", "", 48⟩ rfl
    dsimp only at h0 h1 h2 h3 h4
    rw [c1] at h0
    rw [c2] at h1 h2
    rw [c3] at h3
    rw [c33] at h4
    obtain ⟨k, e0, _, _⟩ := DataW.trod_int Try.underlying3 (h0.trans rfl)
    obtain ⟨key, e1, _, _⟩ := DataW.trod_string Try.underlying9 (h1.trans rfl)
    obtain ⟨text, e2, _, _⟩ := DataW.trod_string Try.underlying9 (h2.trans rfl)
    obtain ⟨m, e3, _, w3⟩ := DataW.trod_int Try.underlying2 (h3.trans rfl)
    obtain ⟨a, e4, w4⟩ := open_ident (h4.trans rfl)
    exact ⟨⟨k, key, text, m, a⟩, five cs _ _ _ _ _ hl e0 e1 e2 e3 e4, bounds_i64 w3, w4⟩
theorem list_of {α : Type} (P : Nat → α → Prop) : ∀ n, (∀ i, i < n → ∃ o, P i o) → ∃ l : List α, l.length = n ∧ ∀ i (hi : i < l.length), P i l[i]
  | 0, _ => ⟨[], rfl, fun i hi => by simp at hi⟩
  | n + 1, h => by
    obtain ⟨l, hl, hp⟩ := list_of P n (fun i hi => h i (by omega))
    obtain ⟨o, ho⟩ := h n (by omega)
    refine ⟨l ++ [o], by simp [hl], fun i hi => ?_⟩
    by_cases h1 : i < l.length
    · rw [List.getElem_append_left h1]; exact hp i h1
    · have e : i = n := by simp at hi; omega
      subst e
      rw [List.getElem_append_right (by omega)]
      simpa [hl] using ho
theorem OS.of_items {w : World} {g off cap : Nat} {l : List GOp} (hc : l.length ≤ cap) (hm : cap ≤ maxLen) (hg : g < w.heap.size) (h : ∀ i (hi : i < l.length), OpAt w g (off + i * 37) l[i]) : OS w g (.slice (some ⟨g, off, none⟩) l.length cap) l := by
  refine ⟨flat_length _ _ GOp.cells_length l, _, cap, rfl, hc, hm, fun _ => ⟨off, rfl, hg, fun i u hu => ?_⟩⟩
  have hi : i = (i / 37) * 37 + i % 37 := by omega
  rw [hi, flat_get GOp.cells 37 GOp.cells_length l (i / 37) (i % 37) (by omega)] at hu
  obtain ⟨o, ho, hu⟩ := Option.bind_eq_some_iff.1 hu
  obtain ⟨hlt, rfl⟩ := List.getElem?_eq_some_iff.1 ho
  have := h (i / 37) hlt (i % 37) u hu
  rw [Nat.add_assoc, ← hi] at this
  exact this
theorem open_ops {cs : List Value} (h : DataW.trod enc Try.prog w base spare held fuel 24 cs = some x) : ∃ (v : Value) (g : Nat) (l : List GOp), cs = [v] ∧ OS w g v l ∧ ∀ o ∈ l, o.nums ∧ o.at_.nums := by
  rcases DataW.trod_slice Try.underlying24 h with ⟨rfl, _⟩ | ⟨a, len, cap, elems, rest, n, _, rfl, _, _, hl, hm, hlen, hel, _, _⟩
  · exact ⟨_, 0, [], rfl, RS.nil w 37 0, by simp⟩
  · have c37 : Try.prog.cellsOf 74 = 37 := by kernel_rfl
    rw [c37] at hel
    obtain ⟨b, off, spot⟩ := a
    by_cases h0 : 0 < len
    · have hs : spot = none := by
        have h1 := hel 0 h0
        rw [List.getElem?_eq_getElem (by omega), Option.bind_eq_some_iff] at h1
        obtain ⟨cs', h2, h3⟩ := h1
        obtain ⟨o, rfl, _, _⟩ := open_op h3
        obtain ⟨_, _, h6⟩ := World.cells?_some h2
        have h7 := h6 0 (by omega)
        have h8 : w.cell? ⟨b, off, spot⟩ = some (.int .i64 o.kind) := by simpa [Addr.add, GOp.cells] using h7
        exact World.cell?_spot h8
      subst hs
      have each : ∀ i, i < len → ∃ o : GOp, OpAt w b (off + i * 37) o ∧ o.nums ∧ o.at_.nums := fun i hi => by
        have h1 := hel i hi
        rw [List.getElem?_eq_getElem (by omega), Option.bind_eq_some_iff] at h1
        obtain ⟨cs', h2, h3⟩ := h1
        obtain ⟨o, rfl, h4, h5⟩ := open_op h3
        obtain ⟨_, _, h6⟩ := World.cells?_some h2
        refine ⟨o, fun k u hu => ?_, h4, h5⟩
        have hk : k < 37 := by rw [← o.cells_length]; exact (List.getElem?_eq_some_iff.1 hu).1
        have h7 := h6 k hk
        rw [hu, Addr.add_mid, Addr.add_mid] at h7
        exact h7
      obtain ⟨l, hll, hp⟩ := list_of (fun i o => OpAt w b (off + i * 37) o ∧ o.nums ∧ o.at_.nums) len each
      subst hll
      have hg : b < w.heap.size := by
        have := (hp 0 h0).1.kind
        rcases Nat.lt_or_ge b w.heap.size with hlt | hge
        · exact hlt
        · simp [World.cell?, Array.getElem?_eq_none hge] at this
      exact ⟨_, b, l, rfl, OS.of_items hl hm hg (fun i hi => (hp i hi).1), fun o ho => by
        obtain ⟨i, hi, rfl⟩ := List.mem_iff_getElem.1 ho
        exact (hp i hi).2⟩
    · have e : len = 0 := by omega
      subst e
      exact ⟨_, 0, [], rfl, ⟨by simp, _, cap, rfl, hl, hm, fun h => absurd h (by simp)⟩, by simp⟩
end Go.Proofs.Ytlpjeckhejbkkaa
end

section
set_option linter.unusedVariables false
set_option linter.unusedSimpArgs false
set_option maxRecDepth 20000
set_option maxHeartbeats 400000
namespace Go.Proofs.Ytlpjeckhejbkkaa
open Go.ChangeShapes Go.WideShapes Go.ChangeAt Go.RowKit

variable {H : Type} {enc : TypeId × Value → H} {w : World} {base : Nat} {spare : Nat → Bool} {held : Bool} {fuel : Nat} {x : DataW H × List MemPlace}
theorem open_byte {cs : List Value} (h : DataW.trod enc Try.prog w base spare held fuel 5 cs = some x) : ∃ b : UInt8, cs = [bv b] := by
  obtain ⟨n, h1, _, h3⟩ := DataW.trod_int Try.underlying5 h
  have hb := bounds_u8 h3
  refine ⟨UInt8.ofNat n.toNat, ?_⟩
  rw [h1]
  have : (UInt8.ofNat n.toNat).toNat = n.toNat := by simp; omega
  simp only [bv, this]
  rw [Int.toNat_of_nonneg hb.1]
theorem RS.of_cells1 {w : World} {g off cap : Nat} {l : List Value} (hc : l.length ≤ cap) (hm : cap ≤ maxLen) (h : ∀ i (hi : i < l.length), w.cell? ⟨g, off + i, none⟩ = some l[i]) : RS w 1 g (.slice (some ⟨g, off, none⟩) l.length cap) l.length l := by
  refine ⟨by simp, _, cap, rfl, hc, hm, fun h0 => ⟨off, rfl, ?_, fun i u hu => ?_⟩⟩
  · have := h 0 h0
    rcases Nat.lt_or_ge g w.heap.size with hlt | hge
    · exact hlt
    · simp [World.cell?, Array.getElem?_eq_none hge] at this
  · obtain ⟨hlt, rfl⟩ := List.getElem?_eq_some_iff.1 hu
    exact h i hlt
/-- a slice of values of one cell each -/
theorem open_ones {t e : TypeId} {α : Type} {f : α → Value} (hu : Try.prog.underlying t = some (.slice e)) (hce : Try.prog.cellsOf e = 1)
    (one : ∀ {fuel : Nat} {cs : List Value} {x : DataW H × List MemPlace}, DataW.trod enc Try.prog w base spare held fuel e cs = some x → ∃ a : α, cs = [f a])
    {cs : List Value} (h : DataW.trod enc Try.prog w base spare held fuel t cs = some x) : ∃ (v : Value) (g : Nat) (l : List α), cs = [v] ∧ RS w 1 g v l.length (l.map f) ∧ (l = [] ∨ ∃ es sp, x.1 = .slice es sp ∧ es.length = l.length) := by
  rcases DataW.trod_slice hu h with ⟨rfl, _⟩ | ⟨a, len, cap, elems, rest, n, _, rfl, rfl, _, hl, hm, hlen, hel, _, _⟩
  · exact ⟨_, 0, [], rfl, RS.nil w 1 0, .inl rfl⟩
  · rw [hce] at hel
    obtain ⟨b, off, spot⟩ := a
    by_cases h0 : 0 < len
    · have each0 : ∀ i, i < len → ∃ o : α, w.cell? ((⟨b, off, spot⟩ : Addr).add i) = some (f o) := fun i hi => by
        have h1 := hel i hi
        rw [List.getElem?_eq_getElem (by omega), Option.bind_eq_some_iff] at h1
        obtain ⟨cs', h2, h3⟩ := h1
        obtain ⟨o, rfl⟩ := one h3
        obtain ⟨_, _, h6⟩ := World.cells?_some h2
        have h7 := h6 0 (by omega)
        refine ⟨o, ?_⟩
        rw [Nat.mul_one] at h7
        simpa [Addr.add] using h7
      have hs : spot = none := by
        obtain ⟨o, ho⟩ := each0 0 h0
        have h8 : w.cell? ⟨b, off, spot⟩ = some (f o) := by simpa [Addr.add] using ho
        exact World.cell?_spot h8
      subst hs
      have each : ∀ i, i < len → ∃ o : α, w.cell? ⟨b, off + i, none⟩ = some (f o) := fun i hi => by
        obtain ⟨o, ho⟩ := each0 i hi
        rw [Addr.add_mid] at ho
        exact ⟨o, ho⟩
      obtain ⟨l, hll, hp⟩ := list_of (fun i o => w.cell? ⟨b, off + i, none⟩ = some (f o)) len each
      subst hll
      refine ⟨_, b, l, rfl, ?_, .inr ⟨_, _, rfl, by simpa using hlen⟩⟩
      have := RS.of_cells1 (w := w) (g := b) (off := off) (cap := cap) (l := l.map f) (by simpa using hl) hm (fun i hi => by
        rw [List.getElem_map]
        exact hp i (by simpa using hi))
      rw [List.length_map] at this
      exact this
    · have e : len = 0 := by omega
      subst e
      exact ⟨_, 0, [], rfl, ⟨by simp, _, cap, rfl, hl, hm, fun h => absurd h (by simp)⟩, .inl rfl⟩
theorem open_bytes {cs : List Value} (h : DataW.trod enc Try.prog w base spare held fuel 27 cs = some x) : ∃ (v : Value) (g : Nat) (l : Bytes), cs = [v] ∧ BS w g v l ∧ (l = [] ∨ ∃ es sp, x.1 = .slice es sp ∧ es.length = l.length) :=
  open_ones Try.underlying27 (by kernel_rfl) open_byte h
theorem bytes_bytes : Try.prog.bytesOf 5 = 1 := by kernel_rfl
theorem bytes_short {P : Program} {ts : List TypeId} {ds : List (DataW H)} {l : Bytes} {d : DataW H} (hz : (DataW.weightsEach Try.prog ts ds).all (· ≤ reachBytes) = true) {j : Nat} (ht : ts[j]? = some 27) (hd : ds[j]? = some d)
    (h : l = [] ∨ ∃ es sp, d = .slice es sp ∧ es.length = l.length) : l.length ≤ 140737488351232 := by
  rcases h with rfl | ⟨es, sp, rfl, he⟩
  · simp
  · have := sized_slice hz ht hd Try.underlying27
    rw [bytes_bytes] at this
    simp only [reachBytes] at this
    omega
end Go.Proofs.Ytlpjeckhejbkkaa
end

section
set_option linter.unusedVariables false
set_option linter.unusedSimpArgs false
set_option maxRecDepth 20000
set_option maxHeartbeats 400000
namespace Go.Proofs.Ytlpjeckhejbkkaa
open Go.ChangeShapes Go.WideShapes Go.ChangeAt Go.RowKit

/-! ### transactions that come in -/
variable {H : Type} {enc : TypeId × Value → H} {w : World} {base : Nat} {spare : Nat → Bool} {held : Bool} {fuel : Nat} {x : DataW H × List MemPlace}
theorem RS.of_items {α : Type} {f : α → List Value} {sz : Nat} (hf : ∀ a, (f a).length = sz) (hsz : 0 < sz) {w : World} {g off cap : Nat} {l : List α} (hc : l.length ≤ cap) (hm : cap ≤ maxLen) (hg : g < w.heap.size) (h : ∀ i (hi : i < l.length), CellsAt w g (off + i * sz) (f l[i])) : RS w sz g (.slice (some ⟨g, off, none⟩) l.length cap) l.length (l.flatMap f) := by
  refine ⟨flat_length _ _ hf l, _, cap, rfl, hc, hm, fun _ => ⟨off, rfl, hg, fun i u hu => ?_⟩⟩
  have hi : i = (i / sz) * sz + i % sz := by rw [Nat.mul_comm]; exact (Nat.div_add_mod i sz).symm
  rw [hi, flat_get f sz hf l (i / sz) (i % sz) (Nat.mod_lt _ hsz)] at hu
  obtain ⟨o, ho, hu⟩ := Option.bind_eq_some_iff.1 hu
  obtain ⟨hlt, rfl⟩ := List.getElem?_eq_some_iff.1 ho
  have := h (i / sz) hlt (i % sz) u hu
  rw [Nat.add_assoc, ← hi] at this
  exact this
theorem open_hashes {cs : List Value} (h : DataW.trod enc Try.prog w base spare held fuel 23 cs = some x) : ∃ (v : Value) (g : Nat) (l : List GHash), cs = [v] ∧ HS w g v l := by
  rcases DataW.trod_slice Try.underlying23 h with ⟨rfl, _⟩ | ⟨a, len, cap, elems, rest, n, _, rfl, _, _, hl, hm, hlen, hel, _, _⟩
  · exact ⟨_, 0, [], rfl, RS.nil w 32 0⟩
  · have c32 : Try.prog.cellsOf 46 = 32 := by kernel_rfl
    rw [c32] at hel
    obtain ⟨b, off, spot⟩ := a
    by_cases h0 : 0 < len
    · have each0 : ∀ i, i < len → ∃ o : GHash, ∀ k, k < 32 → ∀ u, o.cells[k]? = some u → w.cell? (((⟨b, off, spot⟩ : Addr).add (i * 32)).add k) = some u := fun i hi => by
        have h1 := hel i hi
        rw [List.getElem?_eq_getElem (by omega), Option.bind_eq_some_iff] at h1
        obtain ⟨cs', h2, h3⟩ := h1
        obtain ⟨o, rfl⟩ := open_hash h3
        obtain ⟨_, _, h6⟩ := World.cells?_some h2
        refine ⟨o, fun k hk u hu => ?_⟩
        have h7 := h6 k hk
        rw [hu] at h7
        exact h7
      have hs : spot = none := by
        obtain ⟨o, ho⟩ := each0 0 h0
        obtain ⟨u, hu⟩ : ∃ u, o.cells[0]? = some u := ⟨_, List.getElem?_eq_getElem (by rw [o.cells_length]; omega)⟩
        have h7 := ho 0 (by omega) u hu
        have h8 : w.cell? ⟨b, off, spot⟩ = some u := by simpa [Addr.add] using h7
        exact World.cell?_spot h8
      subst hs
      have each : ∀ i, i < len → ∃ o : GHash, CellsAt w b (off + i * 32) o.cells := fun i hi => by
        obtain ⟨o, ho⟩ := each0 i hi
        refine ⟨o, fun k u hu => ?_⟩
        have hk : k < 32 := by rw [← o.cells_length]; exact (List.getElem?_eq_some_iff.1 hu).1
        have h7 := ho k hk u hu
        rw [Addr.add_mid, Addr.add_mid] at h7
        exact h7
      obtain ⟨l, hll, hp⟩ := list_of (fun i o => CellsAt w b (off + i * 32) (GHash.cells o)) len each
      subst hll
      have hg : b < w.heap.size := by
        have h1 := hp 0 h0 0 _ (List.getElem?_eq_getElem (by rw [GHash.cells_length]; omega))
        exact World.block_lt_of_cell? w _ h1
      exact ⟨_, b, l, rfl, RS.of_items GHash.cells_length (by omega) hl hm hg hp⟩
    · have e : len = 0 := by omega
      subst e
      exact ⟨_, 0, [], rfl, ⟨by simp, _, cap, rfl, hl, hm, fun h => absurd h (by simp)⟩⟩
theorem four {α : Type} (cs : List α) (a b c d : α) (hl : cs.length = 4) (h0 : (cs.drop 0).take 1 = [a]) (h1 : (cs.drop 1).take 1 = [b]) (h2 : (cs.drop 2).take 1 = [c]) (h3 : (cs.drop 3).take 1 = [d]) : cs = [a, b, c, d] := by
  match cs, hl with
  | [x0, x1, x2, x3], _ => simp at h0 h1 h2 h3; simp [h0, h1, h2, h3]
theorem open_node {cs : List Value} (h : DataW.trod enc Try.prog w base spare held fuel 26 cs = some x) :
    ∃ (n : GNode) (gp go : Nat) (pv ov : Value), cs = nodeL n.author n.clock pv ov ∧ NodR w n gp go pv ov ∧ ∀ o ∈ n.ops, o.nums := by
  obtain ⟨xs, n, _, _, hl, hn, hf⟩ := DataW.trod_struct Try.underlying26 h
  have c4 : Try.prog.cellsOf 26 = 4 := by kernel_rfl
  have c1 : Try.prog.cellsOf 3 = 1 := by kernel_rfl
  have c2 : Try.prog.cellsOf 23 = 1 := by kernel_rfl
  have c3 : Try.prog.cellsOf 24 = 1 := by kernel_rfl
  rw [c4] at hl
  match xs, hn with
  | [y0, y1, y2, y3], _ =>
    have h0 := hf 0 ⟨"Author", 3, 0, false, "", "", 0⟩ rfl
    have h1 := hf 1 ⟨"Clock", 3, 1, false, "", "", 8⟩ rfl
    have h2 := hf 2 ⟨"Parents", 23, 2, false, "", "", 16⟩ rfl
    have h3 := hf 3 ⟨"Ops", 24, 3, false, "", "", 40⟩ rfl
    dsimp only at h0 h1 h2 h3
    rw [c1] at h0 h1
    rw [c2] at h2
    rw [c3] at h3
    obtain ⟨au, e0, _, _⟩ := DataW.trod_int Try.underlying3 (h0.trans rfl)
    obtain ⟨cl, e1, _, _⟩ := DataW.trod_int Try.underlying3 (h1.trans rfl)
    obtain ⟨pv, gp, ps, e2, hp⟩ := open_hashes (h2.trans rfl)
    obtain ⟨ov, go, os, e3, ho, hns⟩ := open_ops (h3.trans rfl)
    exact ⟨⟨au, cl, ps, os⟩, gp, go, pv, ov, four cs _ _ _ _ hl e0 e1 e2 e3, ⟨hp, ho⟩, fun o h => (hns o h).1⟩
end Go.Proofs.Ytlpjeckhejbkkaa
end
