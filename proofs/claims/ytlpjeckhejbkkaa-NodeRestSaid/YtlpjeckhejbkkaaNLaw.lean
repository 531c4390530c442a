import Derived.Test.YtlpjeckhejbkkaaNSpec
set_option linter.unusedVariables false
set_option linter.unusedSimpArgs false
set_option maxRecDepth 20000
set_option maxHeartbeats 400000
namespace Go.Proofs.Ytlpjeckhejbkkaa
open Go.RowKit

theorem rdHashes_cut {xs : Bytes} (k : Nat) : ∀ (pos p : Nat) (done l : List GHash), rdHashes xs k pos done = .ok l p → pos ≤ xs.length → ∃ new : List GHash, l = done ++ new ∧ new.length = k ∧ cut xs pos p = new.flatMap GHash.l ∧ pos ≤ p ∧ p ≤ xs.length ∧ risingFrom done new = true := by
  induction k with
  | zero =>
    intro pos p done l h hp
    cases h
    exact ⟨[], by simp, rfl, by simp [cut_self], Nat.le_refl _, hp, rfl⟩
  | succ k ih =>
    intro pos p done l h hp
    unfold rdHashes at h
    rcases h1 : rdHash xs pos with ⟨g, p1⟩ | ⟨w, a⟩
    · rw [h1] at h
      simp only [Rd.bind] at h
      obtain ⟨k1, k2⟩ := rdHash_cut h1
      obtain ⟨k3, k4⟩ := rdHash_ok h1
      by_cases hr : risesTo done g = true
      · rw [if_pos hr] at h
        obtain ⟨new, n1, n2, n3, n4, n5, n6⟩ := ih p1 p (done ++ [g]) l h k4
        refine ⟨g :: new, by rw [n1]; simp, by simp [n2], ?_, by omega, n5, ?_⟩
        · rw [← cut_cat k2 n4, k1, n3]; simp
        · rw [risingFrom, hr, n6]; rfl
      · rw [if_neg hr] at h
        cases h
    · rw [h1] at h
      cases h
/-- what is read as a transaction is its block, and it may be -/
theorem rdNode0_cut {xs : Bytes} {p : Nat} {n : GNode} (h : rdNode0 xs 0 = .ok n p) : cut xs 0 p = nodeBlock n ∧ p ≤ xs.length ∧ checkNode n = 0 ∧ ∀ o ∈ n.ops, o.nums := by
  unfold rdNode0 at h
  rcases h1 : rdByte xs 0 with ⟨form, p1⟩ | ⟨w, a⟩
  · rw [h1] at h
    simp only [Rd.bind] at h
    obtain ⟨b1, b2, b3⟩ := rdByte_cut h1
    by_cases hf : form = 1
    · rw [if_pos hf] at h
      subst hf
      rcases h2 : rdByte xs p1 with ⟨au, p2⟩ | ⟨w, a⟩
      · rw [h2] at h
        simp only at h
        obtain ⟨c1, c2, c3⟩ := rdByte_cut h2
        by_cases ha : 1 ≤ au.toNat ∧ au.toNat ≤ 8
        · rw [if_pos ha] at h
          rcases h3 : rdNum xs p2 4096 with ⟨clock, p3⟩ | ⟨w, a⟩
          · rw [h3] at h
            simp only at h
            obtain ⟨d1, d2⟩ := rdNum_cut h3
            obtain ⟨d3, d4, d5, _⟩ := rdNum_ok h3 c3
            by_cases hc : clock = 0
            · rw [if_pos hc] at h; cases h
            rw [if_neg hc] at h
            rcases h4 : rdNum xs p3 64 with ⟨many, p4⟩ | ⟨w, a⟩
            · rw [h4] at h
              simp only at h
              obtain ⟨e1, e2⟩ := rdNum_cut h4
              obtain ⟨e3, e4, e5, _⟩ := rdNum_ok h4 d5
              by_cases hm : decide (clock = 1) = decide (many = 0)
              · rw [if_pos hm] at h
                rcases h5 : rdHashes xs many p4 [] with ⟨ps, p5⟩ | ⟨w, a⟩
                · rw [h5] at h
                  simp only at h
                  obtain ⟨new, f1, f2, f3, f4, f5, f6⟩ := rdHashes_cut many p4 p5 [] ps h5 e5
                  rw [List.nil_append] at f1
                  subst f1
                  rcases h6 : rdOps xs p5 with ⟨ops, p6⟩ | ⟨w, a⟩
                  · rw [h6] at h
                    simp only at h
                    obtain ⟨g1, g2, g3, g4, g5⟩ := rdOps_cut h6 f5
                    cases h
                    have hau : UInt8.ofNat ((au.toNat : Int).toNat) = au := by simp
                    refine ⟨?_, g3, ?_, g5⟩
                    · unfold nodeBlock
                      simp only [hau, Int.toNat_natCast, f2]
                      rw [← cut_cat (xs := xs) (a := 0) (b := p1) (c := p) (by omega) (by omega), b1, ← cut_cat (xs := xs) (a := p1) (b := p2) (c := p) (by omega) (by omega), c1, ← cut_cat (xs := xs) (a := p2) (b := p3) (c := p) (by omega) (by omega), d1, ← cut_cat (xs := xs) (a := p3) (b := p4) (c := p) (by omega) (by omega), e1, ← cut_cat (xs := xs) (a := p4) (b := p5) (c := p) (by omega) (by omega), f3, g1]
                      simp
                    · unfold checkNode
                      simp only
                      rw [if_neg (by omega), if_neg ?_, if_neg ?_, g4]
                      · rw [f2, f6]; simp; omega
                      · rw [f2]
                        intro hh
                        rcases hh with hh | hh | hh
                        · omega
                        · omega
                        · apply hh
                          rw [← hm]
                          congr 1
                          simp; omega
                  · rw [h6] at h; cases h
                · rw [h5] at h; cases h
              · rw [if_neg hm] at h; cases h
            · rw [h4] at h; cases h
          · rw [h3] at h; cases h
        · rw [if_neg ha] at h; cases h
      · rw [h2] at h; cases h
    · rw [if_neg hf] at h; cases h
  · rw [h1] at h; cases h
theorem node_read {n : GNode} (h : checkNode n = 0) (hn : ∀ o ∈ n.ops, o.nums) (C : Bytes) : rdNode0 (nodeBlock n ++ C) 0 = .ok n (nodeBlock n).length := by
  have e := (rp_node h hn).at_ (xs := nodeBlock n ++ C) (A := []) (C := C) (by simp) (p := 0) rfl
  rw [Nat.zero_add] at e
  exact e
/-- the block of a transaction says it -/
theorem node_returns {n : GNode} (h : checkNode n = 0) (hn : ∀ o ∈ n.ops, o.nums) (hz : (nodeBlock n).length ≤ 1048576) : rdNode (nodeBlock n) = .ok n (nodeBlock n).length := by
  have e := node_read h hn []
  rw [List.append_nil] at e
  unfold rdNode
  rw [if_neg (by omega), e]
  simp only [Rd.bind]
  rw [if_neg (by omega)]
/-- whatever bytes say a transaction are its block -/
theorem node_oneform {xs : Bytes} {n : GNode} {p : Nat} (h : rdNode xs = .ok n p) : nodeBlock n = xs ∧ p = xs.length ∧ checkNode n = 0 ∧ (∀ o ∈ n.ops, o.nums) ∧ xs.length ≤ 1048576 := by
  unfold rdNode at h
  by_cases hz : 1048576 < xs.length
  · rw [if_pos hz] at h; cases h
  rw [if_neg hz] at h
  rcases h1 : rdNode0 xs 0 with ⟨m, q⟩ | ⟨w, a⟩
  · rw [h1] at h
    simp only [Rd.bind] at h
    obtain ⟨k1, k2, k3, k4⟩ := rdNode0_cut h1
    by_cases hq : q < xs.length
    · rw [if_pos hq] at h; cases h
    · rw [if_neg hq] at h
      cases h
      have hp : p = xs.length := by omega
      subst hp
      refine ⟨?_, rfl, k3, k4, by omega⟩
      rw [← k1]
      simp [cut]
  · rw [h1] at h; cases h
/-- more behind a block -/
theorem node_more {n : GNode} (h : checkNode n = 0) (hn : ∀ o ∈ n.ops, o.nums) {C : Bytes} (hC : 0 < C.length) (hz : (nodeBlock n).length + C.length ≤ 1048576) : rdNode (nodeBlock n ++ C) = .bad 23 (nodeBlock n).length := by
  unfold rdNode
  rw [if_neg (by rw [List.length_append]; omega), node_read h hn C]
  simp only [Rd.bind]
  rw [if_pos (by rw [List.length_append]; omega)]
/-- less than a block -/
theorem node_short {n : GNode} (h : checkNode n = 0) (hn : ∀ o ∈ n.ops, o.nums) (hz : (nodeBlock n).length ≤ 1048576) {k : Nat} (hk : k < (nodeBlock n).length) : ∃ a, a ≤ k ∧ rdNode ((nodeBlock n).take k) = .bad 20 a := by
  have e := node_read h hn []
  rw [List.append_nil] at e
  obtain ⟨_, h2⟩ := cp_node (xs := nodeBlock n) (n := k) (by omega) 0 n _ e (by omega)
  obtain ⟨a, ha, hr⟩ := (h2 (by omega)).2 hk
  refine ⟨a, ha, ?_⟩
  unfold rdNode
  rw [if_neg (by rw [List.length_take]; omega), hr]
  rfl
end Go.Proofs.Ytlpjeckhejbkkaa
