/-
  NodeOneForm: a block has one form: what Decode reads, Encode lays again byte by byte, and Entry carries the hash of the bytes; what Decode refuses, Entry refuses for the same reason at the same place: the law returns true, whatever the bytes; no condition.
-/
import Derived.Test.YtlpjeckhejbkkaaG7
import Derived.Test.YtlpjeckhejbkkaaRows
section
set_option linter.unusedVariables false
set_option linter.unusedSimpArgs false
set_option maxRecDepth 20000
set_option maxHeartbeats 1600000
namespace Go.Proofs.Ytlpjeckhejbkkaa
open Go.RowKit

/-! ### lists that are equal -/
theorem eqHashes_any (l1 l2 : List GHash) (g1 g2 : Nat) (v1 v2 : Value) (w : World) (h1 : HS w g1 v1 l1) (h2 : HS w g2 v2 l2) :
    Calls Try.prog 35 #[v1, v2] w fun e w' => e = .returned (.bool (decide (l1 = l2))) ∧ Mod [] w w' := by
  obtain ⟨A1, c1, rfl, hc1, hc1'⟩ := h1.val
  obtain ⟨A2, c2, rfl, hc2, hc2'⟩ := h2.val
  unfold maxLen at hc1' hc2'
  have HS1 := Lib.hid h1; clear h1
  have HS2 := Lib.hid h2; clear h2
  by_cases hl : l1.length = l2.length
  · have hl' : (l1.length : Int) = (l2.length : Int) := by omega
    rw [hl] at hc1 ⊢
    have HL := Lib.hid hl; clear hl
    go_enter Try.func35, Try.ntmps35
    go_wp2_with fail
    go_loopw [13] (fun s5 wr => ∃ i : Nat, s5 = .int .i64 (i : Int) ∧ i ≤ l2.length ∧ Hid (l1.take i = l2.take i) ∧ Hid (Mod [] w wr)) (fun s _ => l2.length - (intOf s).toNat)
    case atStart => exact ⟨0, rfl, by omega, Lib.hid rfl, Lib.hid (Mod.refl _ _)⟩
    case round =>
      obtain ⟨i, rfl, hi, HT, HM⟩ := hrel
      by_cases hil : i < l2.length
      · have h1l : i < l1.length := by have := HL.out; omega
        have HOA : Hid (HS wr g1 _ l1) := Lib.hid (HS1.out.mod HM.out (by simp))
        have HOB : Hid (HS wr g2 _ l2) := Lib.hid (HS2.out.mod HM.out (by simp))
        obtain ⟨o1, ca, hv1, _, _, _, hA⟩ := HS.item HOA.out (by omega)
        obtain ⟨o2, cb, hv2, _, _, _, hB⟩ := HS.item HOB.out (by omega)
        injection hv1 with hx1 hx2 hx3
        injection hv2 with hy1 hy2 hy3
        subst hx1 hx3 hy1 hy3
        have HA := Lib.hid (hA i h1l)
        have HB := Lib.hid (hB i hil)
        obtain ⟨a, ha⟩ : ∃ a, l1[i] = a := ⟨_, rfl⟩
        obtain ⟨b, hb⟩ : ∃ b, l2[i] = b := ⟨_, rfl⟩
        have HTA : Hid (l1.take (i + 1) = l1.take i ++ [a]) := Lib.hid (by rw [List.take_succ_eq_append_getElem h1l, ha])
        have HTB : Hid (l2.take (i + 1) = l2.take i ++ [b]) := Lib.hid (by rw [List.take_succ_eq_append_getElem hil, hb])
        have HNE : Hid (a ≠ b → l1 ≠ l2) := Lib.hid (fun h e => by subst e; exact h (ha.symm.trans hb))
        rw [ha] at HA
        rw [hb] at HB
        clear hA hB hx2 hy2 ha hb
        have hil' : (i : Int) < (l2.length : Int) := by omega
        go_wp2_with fail
        have hw0 : Mod [] wr wr.drew := (Mod.refl _ wr).drew
        have hlA : ∀ W, Mod [] wr W → CellsAt W g1 (o1 + i * 32) a.cells := fun W hW => CellsAt.mod HA.out hW (by simp)
        have hlB : ∀ W, Mod [] wr W → CellsAt W g2 (o2 + i * 32) b.cells := fun W hW => CellsAt.mod HB.out hW (by simp)
        have HLA := Lib.hid hlA
        have HLB := Lib.hid hlB
        clear hlA hlB
        refine wp_regionE (Mod []) (by kernel_rfl) ?_
        simp only [List.size_toArray, List.length_cons, List.length_nil, Nat.zero_add, Nat.reduceAdd]
        refine wpAnyE_takeL (preMod _) 0 (v := ?_) rfl (by kernel_rfl) (by kernel_rfl) (by kernel_rfl) (fun _ _ _ h => h) (Or.inl ⟨by rfl, ?_⟩) ?_
        rotate_left; (intro W hW; (try dsimp only at hW); go_simp; try with_reducible rfl)
        (try simp only [Act.put, List.setIfInBounds_toArray, List.set_cons_zero, List.set_cons_succ])
        refine wpAnyE_takeL (preMod _) 1 (v := ?_) rfl (by kernel_rfl) (by kernel_rfl) (by kernel_rfl) (fun _ _ _ h => h) (Or.inl ⟨by rfl, ?_⟩) ?_
        rotate_left; (intro W hW; (try dsimp only at hW); go_simp; try with_reducible rfl)
        (try simp only [Act.put, List.setIfInBounds_toArray, List.set_cons_zero, List.set_cons_succ])
        refine wpAnyE_takeL (preMod _) 2 (v := ?_) rfl (by kernel_rfl) (by kernel_rfl) (by kernel_rfl) (fun _ _ _ h => h) (Or.inl ⟨by rfl, ?_⟩) ?_
        rotate_left; (intro W hW; (try dsimp only at hW); go_simp; try with_reducible rfl)
        (try simp only [Act.put, List.setIfInBounds_toArray, List.set_cons_zero, List.set_cons_succ])
        refine wpAnyE_takeL (preMod _) 3 (v := ?_) rfl (by kernel_rfl) (by kernel_rfl) (by kernel_rfl) (fun _ _ _ h => h) (Or.inl ⟨by rfl, ?_⟩) ?_
        rotate_left; (intro W hW; (try dsimp only at hW); refine (run_load_cells rtHash (.tmp 18) (by rfl) (by rfl) (GHash.cells_length _) (HLA.out W (hw0.trans hW))).trans ?_; change Result.ok (Next.value (GHash.val a)) W = _; try with_reducible rfl)
        (try simp only [Act.put, List.setIfInBounds_toArray, List.set_cons_zero, List.set_cons_succ])
        refine wpAnyE_takeL (preMod _) 4 (v := ?_) rfl (by kernel_rfl) (by kernel_rfl) (by kernel_rfl) (fun _ _ _ h => h) (Or.inl ⟨by rfl, ?_⟩) ?_
        rotate_left; (intro W hW; (try dsimp only at hW); go_simp; try with_reducible rfl)
        (try simp only [Act.put, List.setIfInBounds_toArray, List.set_cons_zero, List.set_cons_succ])
        refine wpAnyE_takeL (preMod _) 5 (v := ?_) rfl (by kernel_rfl) (by kernel_rfl) (by kernel_rfl) (fun _ _ _ h => h) (Or.inl ⟨by rfl, ?_⟩) ?_
        rotate_left; (intro W hW; (try dsimp only at hW); go_simp; try with_reducible rfl)
        (try simp only [Act.put, List.setIfInBounds_toArray, List.set_cons_zero, List.set_cons_succ])
        refine wpAnyE_takeL (preMod _) 6 (v := ?_) rfl (by kernel_rfl) (by kernel_rfl) (by kernel_rfl) (fun _ _ _ h => h) (Or.inl ⟨by rfl, ?_⟩) ?_
        rotate_left; (intro W hW; (try dsimp only at hW); go_simp; try with_reducible rfl)
        (try simp only [Act.put, List.setIfInBounds_toArray, List.set_cons_zero, List.set_cons_succ])
        refine wpAnyE_takeL (preMod _) 7 (v := ?_) rfl (by kernel_rfl) (by kernel_rfl) (by kernel_rfl) (fun _ _ _ h => h) (Or.inl ⟨by rfl, ?_⟩) ?_
        rotate_left; (intro W hW; (try dsimp only at hW); refine (run_load_cells rtHash (.tmp 22) (by rfl) (by rfl) (GHash.cells_length _) (HLB.out W (hw0.trans hW))).trans ?_; change Result.ok (Next.value (GHash.val b)) W = _; try with_reducible rfl)
        (try simp only [Act.put, List.setIfInBounds_toArray, List.set_cons_zero, List.set_cons_succ])
        refine wpAnyE_takeL (preMod _) 8 (v := ?_) rfl (by kernel_rfl) (by kernel_rfl) (by kernel_rfl) (fun _ _ _ h => h) (Or.inl ⟨by rfl, ?_⟩) ?_
        rotate_left; (intro W hW; (try dsimp only at hW); go_simp; try with_reducible rfl)
        (try simp only [Act.put, List.setIfInBounds_toArray, List.set_cons_zero, List.set_cons_succ])
        refine wpAnyE_done (by kernel_rfl) ?_ _
        have HMW : Hid (Mod [] w wr.drew) := Lib.hid (HM.out.trans hw0)
        by_cases heq : (a == b) = true
        · rw [heq]
          have HE := Lib.hid (eq_of_beq heq)
          clear heq
          go_wp2_with fail
          go_roundw
          case rel =>
            refine ⟨i + 1, by go_num, by omega, Lib.hid ?_, HMW⟩
            rw [HTA.out, HTB.out, HT.out, HE.out]
          case measure => simp [intOf]; omega
        · rw [Bool.not_eq_true] at heq
          rw [heq]
          have HF : Hid (decide (l1 = l2) = false) := Lib.hid (decide_eq_false (HNE.out (by simpa using heq)))
          clear heq
          go_wp2_with fail
          go_ret
          exact ⟨ret_bool HF.out.symm, HMW.out⟩
      · have hie : i = l2.length := by omega
        have he : l1 = l2 := by
          have h := HT.out
          rw [hie, List.take_length, ← HL.out, List.take_length] at h
          exact h
        have HF : Hid (decide (l1 = l2) = true) := Lib.hid (decide_eq_true he)
        have hilf : ¬ ((i : Int) < (l2.length : Int)) := by omega
        clear hie he HT
        go_wp2_with fail
        go_ret
        exact ⟨ret_bool HF.out.symm, HM.out⟩
  · have hl' : ¬ ((l1.length : Int) = (l2.length : Int)) := by omega
    have HF : Hid (decide (l1 = l2) = false) := Lib.hid (decide_eq_false (fun h => hl (by rw [h])))
    go_enter Try.func35, Try.ntmps35
    go_wp2
    go_ret
    exact ⟨ret_bool HF.out.symm, Mod.refl _ _⟩
theorem refEqHashes_any (l1 l2 : List GHash) (g1 g2 : Nat) (v1 v2 : Value) (w : World) (h1 : HS w g1 v1 l1) (h2 : HS w g2 v2 l2) :
    Calls Try.prog 21 #[v1, v2] w fun e w' => e = .returned (.bool (decide (l1 = l2))) ∧ Mod [] w w' := by
  obtain ⟨A1, c1, rfl, hc1, hc1'⟩ := h1.val
  obtain ⟨A2, c2, rfl, hc2, hc2'⟩ := h2.val
  unfold maxLen at hc1' hc2'
  have HS1 := Lib.hid h1; clear h1
  have HS2 := Lib.hid h2; clear h2
  by_cases hl : l1.length = l2.length
  · have hl' : (l1.length : Int) = (l2.length : Int) := by omega
    rw [hl] at hc1 ⊢
    have HL := Lib.hid hl; clear hl
    go_enter Try.func21, Try.ntmps21
    go_wp2_with fail
    go_loopw [5] (fun s5 wr => ∃ i : Nat, s5 = .int .i64 (i : Int) ∧ i ≤ l2.length ∧ Hid (l1.take i = l2.take i) ∧ Hid (Mod [] w wr)) (fun s _ => l2.length - (intOf s).toNat)
    case atStart => exact ⟨0, rfl, by omega, Lib.hid rfl, Lib.hid (Mod.refl _ _)⟩
    case round =>
      obtain ⟨i, rfl, hi, HT, HM⟩ := hrel
      by_cases hil : i < l2.length
      · have h1l : i < l1.length := by have := HL.out; omega
        have HOA : Hid (HS wr g1 _ l1) := Lib.hid (HS1.out.mod HM.out (by simp))
        have HOB : Hid (HS wr g2 _ l2) := Lib.hid (HS2.out.mod HM.out (by simp))
        obtain ⟨o1, ca, hv1, _, _, _, hA⟩ := HS.item HOA.out (by omega)
        obtain ⟨o2, cb, hv2, _, _, _, hB⟩ := HS.item HOB.out (by omega)
        injection hv1 with hx1 hx2 hx3
        injection hv2 with hy1 hy2 hy3
        subst hx1 hx3 hy1 hy3
        have HA := Lib.hid (hA i h1l)
        have HB := Lib.hid (hB i hil)
        obtain ⟨a, ha⟩ : ∃ a, l1[i] = a := ⟨_, rfl⟩
        obtain ⟨b, hb⟩ : ∃ b, l2[i] = b := ⟨_, rfl⟩
        have HTA : Hid (l1.take (i + 1) = l1.take i ++ [a]) := Lib.hid (by rw [List.take_succ_eq_append_getElem h1l, ha])
        have HTB : Hid (l2.take (i + 1) = l2.take i ++ [b]) := Lib.hid (by rw [List.take_succ_eq_append_getElem hil, hb])
        have HNE : Hid (a ≠ b → l1 ≠ l2) := Lib.hid (fun h e => by subst e; exact h (ha.symm.trans hb))
        rw [ha] at HA
        rw [hb] at HB
        clear hA hB hx2 hy2 ha hb
        have hil' : (i : Int) < (l2.length : Int) := by omega
        go_wp2_with fail
        have hw0 : Mod [] wr wr.drew := (Mod.refl _ wr).drew
        have hlA : ∀ W, Mod [] wr W → CellsAt W g1 (o1 + i * 32) a.cells := fun W hW => CellsAt.mod HA.out hW (by simp)
        have hlB : ∀ W, Mod [] wr W → CellsAt W g2 (o2 + i * 32) b.cells := fun W hW => CellsAt.mod HB.out hW (by simp)
        have HLA := Lib.hid hlA
        have HLB := Lib.hid hlB
        clear hlA hlB
        refine wp_regionE (Mod []) (by kernel_rfl) ?_
        simp only [List.size_toArray, List.length_cons, List.length_nil, Nat.zero_add, Nat.reduceAdd]
        refine wpAnyE_takeL (preMod _) 0 (v := ?_) rfl (by kernel_rfl) (by kernel_rfl) (by kernel_rfl) (fun _ _ _ h => h) (Or.inl ⟨by rfl, ?_⟩) ?_
        rotate_left; (intro W hW; (try dsimp only at hW); go_simp; try with_reducible rfl)
        (try simp only [Act.put, List.setIfInBounds_toArray, List.set_cons_zero, List.set_cons_succ])
        refine wpAnyE_takeL (preMod _) 1 (v := ?_) rfl (by kernel_rfl) (by kernel_rfl) (by kernel_rfl) (fun _ _ _ h => h) (Or.inl ⟨by rfl, ?_⟩) ?_
        rotate_left; (intro W hW; (try dsimp only at hW); go_simp; try with_reducible rfl)
        (try simp only [Act.put, List.setIfInBounds_toArray, List.set_cons_zero, List.set_cons_succ])
        refine wpAnyE_takeL (preMod _) 2 (v := ?_) rfl (by kernel_rfl) (by kernel_rfl) (by kernel_rfl) (fun _ _ _ h => h) (Or.inl ⟨by rfl, ?_⟩) ?_
        rotate_left; (intro W hW; (try dsimp only at hW); go_simp; try with_reducible rfl)
        (try simp only [Act.put, List.setIfInBounds_toArray, List.set_cons_zero, List.set_cons_succ])
        refine wpAnyE_takeL (preMod _) 3 (v := ?_) rfl (by kernel_rfl) (by kernel_rfl) (by kernel_rfl) (fun _ _ _ h => h) (Or.inl ⟨by rfl, ?_⟩) ?_
        rotate_left; (intro W hW; (try dsimp only at hW); refine (run_load_cells rtHash (.tmp 19) (by rfl) (by rfl) (GHash.cells_length _) (HLA.out W (hw0.trans hW))).trans ?_; change Result.ok (Next.value (GHash.val a)) W = _; try with_reducible rfl)
        (try simp only [Act.put, List.setIfInBounds_toArray, List.set_cons_zero, List.set_cons_succ])
        refine wpAnyE_takeL (preMod _) 4 (v := ?_) rfl (by kernel_rfl) (by kernel_rfl) (by kernel_rfl) (fun _ _ _ h => h) (Or.inl ⟨by rfl, ?_⟩) ?_
        rotate_left; (intro W hW; (try dsimp only at hW); go_simp; try with_reducible rfl)
        (try simp only [Act.put, List.setIfInBounds_toArray, List.set_cons_zero, List.set_cons_succ])
        refine wpAnyE_takeL (preMod _) 5 (v := ?_) rfl (by kernel_rfl) (by kernel_rfl) (by kernel_rfl) (fun _ _ _ h => h) (Or.inl ⟨by rfl, ?_⟩) ?_
        rotate_left; (intro W hW; (try dsimp only at hW); go_simp; try with_reducible rfl)
        (try simp only [Act.put, List.setIfInBounds_toArray, List.set_cons_zero, List.set_cons_succ])
        refine wpAnyE_takeL (preMod _) 6 (v := ?_) rfl (by kernel_rfl) (by kernel_rfl) (by kernel_rfl) (fun _ _ _ h => h) (Or.inl ⟨by rfl, ?_⟩) ?_
        rotate_left; (intro W hW; (try dsimp only at hW); go_simp; try with_reducible rfl)
        (try simp only [Act.put, List.setIfInBounds_toArray, List.set_cons_zero, List.set_cons_succ])
        refine wpAnyE_takeL (preMod _) 7 (v := ?_) rfl (by kernel_rfl) (by kernel_rfl) (by kernel_rfl) (fun _ _ _ h => h) (Or.inl ⟨by rfl, ?_⟩) ?_
        rotate_left; (intro W hW; (try dsimp only at hW); refine (run_load_cells rtHash (.tmp 23) (by rfl) (by rfl) (GHash.cells_length _) (HLB.out W (hw0.trans hW))).trans ?_; change Result.ok (Next.value (GHash.val b)) W = _; try with_reducible rfl)
        (try simp only [Act.put, List.setIfInBounds_toArray, List.set_cons_zero, List.set_cons_succ])
        refine wpAnyE_takeL (preMod _) 8 (v := ?_) rfl (by kernel_rfl) (by kernel_rfl) (by kernel_rfl) (fun _ _ _ h => h) (Or.inl ⟨by rfl, ?_⟩) ?_
        rotate_left; (intro W hW; (try dsimp only at hW); go_simp; try with_reducible rfl)
        (try simp only [Act.put, List.setIfInBounds_toArray, List.set_cons_zero, List.set_cons_succ])
        refine wpAnyE_done (by kernel_rfl) ?_ _
        have HMW : Hid (Mod [] w wr.drew) := Lib.hid (HM.out.trans hw0)
        by_cases heq : (a == b) = true
        · rw [heq]
          have HE := Lib.hid (eq_of_beq heq)
          clear heq
          go_wp2_with fail
          go_roundw
          case rel =>
            refine ⟨i + 1, by go_num, by omega, Lib.hid ?_, HMW⟩
            rw [HTA.out, HTB.out, HT.out, HE.out]
          case measure => simp [intOf]; omega
        · rw [Bool.not_eq_true] at heq
          rw [heq]
          have HF : Hid (decide (l1 = l2) = false) := Lib.hid (decide_eq_false (HNE.out (by simpa using heq)))
          clear heq
          go_wp2_with fail
          go_ret
          exact ⟨ret_bool HF.out.symm, HMW.out⟩
      · have hie : i = l2.length := by omega
        have he : l1 = l2 := by
          have h := HT.out
          rw [hie, List.take_length, ← HL.out, List.take_length] at h
          exact h
        have HF : Hid (decide (l1 = l2) = true) := Lib.hid (decide_eq_true he)
        have hilf : ¬ ((i : Int) < (l2.length : Int)) := by omega
        clear hie he HT
        go_wp2_with fail
        go_ret
        exact ⟨ret_bool HF.out.symm, HM.out⟩
  · have hl' : ¬ ((l1.length : Int) = (l2.length : Int)) := by omega
    have HF : Hid (decide (l1 = l2) = false) := Lib.hid (decide_eq_false (fun h => hl (by rw [h])))
    go_enter Try.func21, Try.ntmps21
    go_wp2
    go_ret
    exact ⟨ret_bool HF.out.symm, Mod.refl _ _⟩
theorem same_enter (args : Array Value) (w : World) : (callFunc 37 args).run Try.prog w = .ok (.enter 37 args) w := run_enter Try.func37 (by kernel_rfl) (by kernel_rfl) args w
theorem eqOps_any (l1 l2 : List GOp) (g1 g2 : Nat) (v1 v2 : Value) (w : World) (h1 : OS w g1 v1 l1) (h2 : OS w g2 v2 l2) :
    Calls Try.prog 36 #[v1, v2, .func (.func 37) #[] #[]] w fun e w' => e = .returned (.bool (decide (l1 = l2))) ∧ Mod [] w w' := by
  obtain ⟨A1, c1, rfl, hc1, hc1'⟩ := h1.val
  obtain ⟨A2, c2, rfl, hc2, hc2'⟩ := h2.val
  unfold maxLen at hc1' hc2'
  have HS1 := Lib.hid h1; clear h1
  have HS2 := Lib.hid h2; clear h2
  have hen := same_enter
  by_cases hl : l1.length = l2.length
  · have hl' : (l1.length : Int) = (l2.length : Int) := by omega
    rw [hl] at hc1 ⊢
    have HL := Lib.hid hl; clear hl
    go_enter Try.func36, Try.ntmps36
    go_wp2_with fail
    go_loopw [17] (fun s5 wr => ∃ i : Nat, s5 = .int .i64 (i : Int) ∧ i ≤ l2.length ∧ Hid (l1.take i = l2.take i) ∧ Hid (Mod [] w wr)) (fun s _ => l2.length - (intOf s).toNat)
    case atStart => exact ⟨0, rfl, by omega, Lib.hid rfl, Lib.hid (Mod.refl _ _)⟩
    case round =>
      obtain ⟨i, rfl, hi, HT, HM⟩ := hrel
      by_cases hil : i < l2.length
      · have h1l : i < l1.length := by have := HL.out; omega
        have HOA : Hid (OS wr g1 _ l1) := Lib.hid (HS1.out.mod HM.out (by simp))
        have HOB : Hid (OS wr g2 _ l2) := Lib.hid (HS2.out.mod HM.out (by simp))
        obtain ⟨o1, ca, hv1, _, _, _, hA⟩ := OS.item HOA.out (by omega)
        obtain ⟨o2, cb, hv2, _, _, _, hB⟩ := OS.item HOB.out (by omega)
        injection hv1 with hx1 hx2 hx3
        injection hv2 with hy1 hy2 hy3
        subst hx1 hx3 hy1 hy3
        have HA := Lib.hid (hA i h1l)
        have HB := Lib.hid (hB i hil)
        obtain ⟨a, ha⟩ : ∃ a, l1[i] = a := ⟨_, rfl⟩
        obtain ⟨b, hb⟩ : ∃ b, l2[i] = b := ⟨_, rfl⟩
        have HTA : Hid (l1.take (i + 1) = l1.take i ++ [a]) := Lib.hid (by rw [List.take_succ_eq_append_getElem h1l, ha])
        have HTB : Hid (l2.take (i + 1) = l2.take i ++ [b]) := Lib.hid (by rw [List.take_succ_eq_append_getElem hil, hb])
        have HNE : Hid (a ≠ b → l1 ≠ l2) := Lib.hid (fun h e => by subst e; exact h (ha.symm.trans hb))
        rw [ha] at HA
        rw [hb] at HB
        clear hA hB hx2 hy2 ha hb
        have hil' : (i : Int) < (l2.length : Int) := by omega
        go_wp2_with (first | ((with_reducible refine wpList_load_op _ rfl ?hgd HA.out ?hx ?_); (case hgd => exact rfl); (case hx => exact rfl)) | ((with_reducible refine wpList_store_op (o := a) _ _ rfl ?hgd ?hx ?hy (Blk.new _ _ _) ?hold ?_); (case hgd => exact rfl); (case hx => exact rfl); (case hy => exact rfl); (case hold => exact rfl); intro w3 hv3 hm3; have hmx : Mod [] wr w3 := ((Mod.refl [] wr).alloc _).then hm3 (by simp); have HV3 := Lib.hid hv3; have HM3 := Lib.hid hmx; have HB3 : Hid (OpAt w3 g2 (o2 + i * 37) b) := Lib.hid (CellsAt.mod HB.out hmx (by simp)); clear hv3 hm3 hmx) | ((with_reducible refine wpList_load_op _ rfl ?hgd HB3.out ?hx ?_); (case hgd => exact rfl); (case hx => exact rfl)) | ((with_reducible refine wpList_store_op (o := b) _ _ rfl ?hgd ?hx ?hy (Blk.new _ _ _) ?hold ?_); (case hgd => exact rfl); (case hx => exact rfl); (case hy => exact rfl); (case hold => exact rfl); intro w4 hv4 hm4; have hmx : Mod [] w3 w4 := ((Mod.refl [] w3).alloc _).then hm4 (by simp); have HO4 : Hid (OpAt w4 wr.heap.size 0 a) := Lib.hid (CellsAt.of_blk (Blk.mod HV3.out hmx (by simp))); have HP4 : Hid (OpAt w4 w3.heap.size 0 b) := Lib.hid (CellsAt.of_blk hv4); have HM4 := Lib.hid (HM3.out.trans hmx); clear hv4 hm4 hmx) | ((with_reducible refine wpList_load_op _ rfl ?hgd HO4.out ?hx ?_); (case hgd => exact rfl); (case hx => exact rfl)) | ((with_reducible refine wpList_load_op _ rfl ?hgd HP4.out ?hx ?_); (case hgd => exact rfl); (case hx => exact rfl)))
        (first | rw [Oper.upon_enter] | skip)
        refine (same_any a b w4).mono ?_
        rintro e' w9 ⟨rfl, hm9⟩
        have HMW : Hid (Mod [] w w9) := Lib.hid (HM.out.trans (HM4.out.trans hm9))
        by_cases heq : (a == b) = true
        · rw [heq]
          have HE := Lib.hid (eq_of_beq heq)
          clear heq
          go_wp2_with fail
          go_roundw
          case rel =>
            refine ⟨i + 1, by go_num, by omega, Lib.hid ?_, HMW⟩
            rw [HTA.out, HTB.out, HT.out, HE.out]
          case measure => simp [intOf]; omega
        · rw [Bool.not_eq_true] at heq
          rw [heq]
          have HF : Hid (decide (l1 = l2) = false) := Lib.hid (decide_eq_false (HNE.out (by simpa using heq)))
          clear heq
          go_wp2_with fail
          go_ret
          exact ⟨ret_bool HF.out.symm, HMW.out⟩
      · have hie : i = l2.length := by omega
        have he : l1 = l2 := by
          have h := HT.out
          rw [hie, List.take_length, ← HL.out, List.take_length] at h
          exact h
        have HF : Hid (decide (l1 = l2) = true) := Lib.hid (decide_eq_true he)
        have hilf : ¬ ((i : Int) < (l2.length : Int)) := by omega
        clear hie he HT
        go_wp2_with fail
        go_ret
        exact ⟨ret_bool HF.out.symm, HM.out⟩
  · have hl' : ¬ ((l1.length : Int) = (l2.length : Int)) := by omega
    have HF : Hid (decide (l1 = l2) = false) := Lib.hid (decide_eq_false (fun h => hl (by rw [h])))
    go_enter Try.func36, Try.ntmps36
    go_wp2
    go_ret
    exact ⟨ret_bool HF.out.symm, Mod.refl _ _⟩
end Go.Proofs.Ytlpjeckhejbkkaa
end

section
set_option linter.unusedVariables false
set_option linter.unusedSimpArgs false
set_option maxRecDepth 20000
set_option maxHeartbeats 1600000
namespace Go.Proofs.Ytlpjeckhejbkkaa
open Go.RowKit

theorem nodeSame_any (a b : GNode) (g1 o1 g2 o2 : Nat) (pv ov pu ou : Value) (w : World) (h1 : NodR w a g1 o1 pv ov) (h2 : NodR w b g2 o2 pu ou) :
    Calls Try.prog 20 #[nodeV a.author a.clock pv ov, nodeV b.author b.clock pu ou] w fun e w' => e = .returned (.bool (nodeEq a b)) ∧ Mod [] w w' := by
  have HR1 := Lib.hid h1; clear h1
  have HR2 := Lib.hid h2; clear h2
  obtain ⟨au, cl, ps, os⟩ := a
  obtain ⟨bu, bl, qs, us⟩ := b
  dsimp only at *
  have HNE : Hid (nodeEq ⟨au, cl, ps, os⟩ ⟨bu, bl, qs, us⟩ = (decide (au = bu) && decide (cl = bl) && decide (ps = qs) && decide (os = us))) := Lib.hid rfl
  generalize nodeEq ⟨au, cl, ps, os⟩ ⟨bu, bl, qs, us⟩ = ne at *
  go_enter Try.func20, Try.ntmps20
  go_upto_region 1 with (first | ((with_reducible refine wpList_box_node _ rfl ?hgd (au := au) (cl := cl) (pv := pv) (ov := ov) ?hx ?_); (case hgd => exact rfl); (case hx => exact rfl); intro q1 w1 hv1 hm1 hq1 hl1; have HV1 := Lib.hid hv1; have HM1 := Lib.hid hm1; clear hv1 hm1) | ((with_reducible refine wpList_box_node _ rfl ?hgd (au := bu) (cl := bl) (pv := pu) (ov := ou) ?hx ?_); (case hgd => exact rfl); (case hx => exact rfl); intro q2 w2 hv2 hm2 hq2 hl2; have HT : Hid (TwoN w q1 q2 ⟨au, cl, ps, os⟩ ⟨bu, bl, qs, us⟩ g1 o1 g2 o2 pv ov pu ou w2) := Lib.hid ⟨HV1.out.mod hm2 (by simp), hv2, HR1.out.mod0 (HM1.out.trans hm2), HR2.out.mod0 (HM1.out.trans hm2), HM1.out.trans hm2⟩; clear hv2 hm2))
  clear HV1 HM1
  obtain ⟨c0, c1, c2, c3, _⟩ := HT.out.n1.open_
  obtain ⟨d0, d1, d2, d3, _⟩ := HT.out.n2.open_
  by_cases h1 : au = bu
  · subst h1
    by_cases h2 : cl = bl
    · subst h2
      rw [decide_eq_true rfl, decide_eq_true rfl] at HNE
      go_wp2_with fail
      refine (eqHashes_any ps qs g1 g2 pv pu w2 HT.out.r1.ps HT.out.r2.ps).mono ?_
      rintro e' w3 ⟨rfl, hm3⟩
      have HT3 := Lib.hid (HT.out.mod hm3)
      clear HT hm3 c0 c1 c2 c3 d0 d1 d2 d3
      obtain ⟨c0, c1, c2, c3, _⟩ := HT3.out.n1.open_
      obtain ⟨d0, d1, d2, d3, _⟩ := HT3.out.n2.open_
      cases hd : decide (ps = qs) with
      | true =>
        rw [hd] at HNE
        clear hd
        go_wp2_with fail
        refine (eqOps_any os us o1 o2 ov ou w3 HT3.out.r1.os HT3.out.r2.os).mono ?_
        rintro e' w4 ⟨rfl, hm4⟩
        have HT4 := Lib.hid (HT3.out.mod hm4)
        clear HT3 hm4 c0 c1 c2 c3 d0 d1 d2 d3
        cases hd2 : decide (os = us) with
        | true =>
          rw [hd2] at HNE
          clear hd2
          go_wp2_with fail
          go_ret
          exact ⟨ret_bool (by rw [HNE.out]; rfl), HT4.out.md⟩
        | false =>
          rw [hd2] at HNE
          clear hd2
          go_wp2_with fail
          go_ret
          exact ⟨ret_bool (by rw [HNE.out]; rfl), HT4.out.md⟩
      | false =>
        rw [hd] at HNE
        clear hd
        go_wp2_with fail
        go_ret
        exact ⟨ret_bool (by rw [HNE.out]; rfl), HT3.out.md⟩
    · have HF : Hid (ne = false) := Lib.hid (by rw [HNE.out, decide_eq_false h2]; simp)
      clear HNE
      go_wp2_with fail
      go_ret
      exact ⟨ret_bool HF.out.symm, HT.out.md⟩
  · have HF : Hid (ne = false) := Lib.hid (by rw [HNE.out, decide_eq_false h1]; simp)
    clear HNE
    go_wp2_with fail
    go_ret
    exact ⟨ret_bool HF.out.symm, HT.out.md⟩
/-! ### entries, and what the graph knows of them -/
abbrev entryL (h : GHash) (au cl : Int) (pv ov : Value) : List Value := h.cells ++ nodeL au cl pv ov
abbrev entryV (h : GHash) (au cl : Int) (pv ov : Value) : Value := .agg (entryL h au cl pv ov).toArray
abbrev vertexL (h : GHash) (cl : Int) (pv : Value) : List Value := h.cells ++ [.int .i64 cl, pv]
theorem entryL_length (h : GHash) (au cl : Int) (pv ov : Value) : (entryL h au cl pv ov).length = 36 := by simp [GHash.cells_length]
theorem vertexL_length (h : GHash) (cl : Int) (pv : Value) : (vertexL h cl pv).length = 34 := by simp [GHash.cells_length]
theorem rtEntry : RowT Try.prog 48 36 := ⟨_, Try.underlying48, rfl, by kernel_rfl⟩
def EntB (w : World) (q : Nat) (h : GHash) (au cl : Int) (pv ov : Value) : Prop := Blk w q 48 (entryL h au cl pv ov).toArray
theorem CellsAt.left {w : World} {q off : Nat} {a b : List Value} (h : CellsAt w q off (a ++ b)) : CellsAt w q off a := fun i u hu => h i u (by rw [List.getElem?_append_left (List.getElem?_eq_some_iff.1 hu).1]; exact hu)
theorem CellsAt.right {w : World} {q off n : Nat} {a b : List Value} (h : CellsAt w q off (a ++ b)) (hn : a.length = n) : CellsAt w q (off + n) b := fun i u hu => by
  rw [Nat.add_assoc]
  exact h (n + i) u (by rw [List.getElem?_append_right (by omega), hn, Nat.add_sub_cancel_left]; exact hu)
theorem EntB.parts {w : World} {q : Nat} {h : GHash} {au cl : Int} {pv ov : Value} (hb : EntB w q h au cl pv ov) : CellsAt w q 0 (entryL h au cl pv ov) ∧ HashAt w q 0 h ∧ CellsAt w q 32 (nodeL au cl pv ov) ∧
    w.cell? ⟨q, 32, none⟩ = some (.int .i64 au) ∧ w.cell? ⟨q, 33, none⟩ = some (.int .i64 cl) ∧ w.cell? ⟨q, 34, none⟩ = some pv ∧ w.cell? ⟨q, 35, none⟩ = some ov := by
  have h0 : CellsAt w q 0 (entryL h au cl pv ov) := CellsAt.of_blk hb
  have h1 := h0.right (GHash.cells_length h)
  rw [Nat.zero_add] at h1
  exact ⟨h0, h0.left, h1, h1 0 _ rfl, h1 1 _ rfl, h1 2 _ rfl, h1 3 _ rfl⟩
theorem EntB.mod {S : List Nat} {w w' : World} {q : Nat} {h : GHash} {au cl : Int} {pv ov : Value} (hb : EntB w q h au cl pv ov) (hm : Mod S w w') (hq : q ∉ S) : EntB w' q h au cl pv ov := Blk.mod hb hm hq
theorem wpList_box_entry {ops : Array Oper} {rest : List Oper} {op : Oper} {a : Act} {w : World} {Q : Exit → Act → World → Prop} (x : Operand) (ho : op.op = .box 48 x) (hgd : Region.wanted op (yielded ops a.tmps) = true) {h : GHash} {au cl : Int} {pv ov : Value} (hx : a.eval x = entryV h au cl pv ov)
    (hh : ∀ q w1, EntB w1 q h au cl pv ov → Mod [] w w1 → w.heap.size ≤ q → q < w1.heap.size → wpList Try.prog ops Q rest (a.put op.dst (.pointer (some ⟨q, 0, none⟩))) w1) : wpList Try.prog ops Q (op :: rest) a w :=
  wpList_box x ho hgd hx hh
theorem wpList_load_entry {ops : Array Oper} {rest : List Oper} {op : Oper} {a : Act} {w : World} {Q : Exit → Act → World → Prop} (x : Operand) (ho : op.op = .load 48 x) (hgd : Region.wanted op (yielded ops a.tmps) = true) {b k : Nat} {h : GHash} {au cl : Int} {pv ov : Value} (H : CellsAt w b k (entryL h au cl pv ov)) (hx : a.eval x = .pointer (some ⟨b, k, none⟩))
    (hh : wpList Try.prog ops Q rest (a.put op.dst (entryV h au cl pv ov)) w) : wpList Try.prog ops Q (op :: rest) a w :=
  wpList_load_cells rtEntry x ho hgd hx (entryL_length _ _ _ _ _) H hh
theorem rtVertex : RowT Try.prog 50 34 := ⟨_, Try.underlying50, rfl, by kernel_rfl⟩
theorem infoVertex : (Try.prog.info? 50).map (fun i => (i.zero, i.size, i.bytes)) = some (some (.agg (vertexL GHash.zero 0 (.slice none 0 0)).toArray), 34, 64) := by kernel_rfl
theorem placesVertex : ((Try.prog.fieldsOf 50).toList.mapM (fun f => (Try.prog.info? f.type).map fun i => (f.offset, i.size))) = some [(0, 32), (32, 1), (33, 1)] := by kernel_rfl
theorem built_vertex (h : GHash) (cl : Int) (A : Option Addr) (n c : Nat) : Try.prog.built 50 [(0, .agg h.cells.toArray), (1, .int .i64 cl), (2, .slice A n c)] = some (vertexL h cl (.slice A n c)).toArray := by
  obtain ⟨i, hi, hz, _, _⟩ := info_parts infoVertex
  have hp := placesVertex
  unfold Program.built
  simp only [hi, hz, Try.underlying50]
  simp only [Program.fieldsOf, Try.underlying50] at hp
  simp only [hp]
  have hl := GHash.cells_length h
  have h0 := GHash.cells_length GHash.zero
  have ez : (Value.agg (vertexL GHash.zero 0 (.slice none 0 0)).toArray).cells = (GHash.zero.cells ++ [Value.int .i64 0, .slice none 0 0]).toArray := rfl
  have eh : (Value.agg h.cells.toArray).cells.toList = h.cells := rfl
  rw [ez, fill_one 0 32 (.agg h.cells.toArray) _ (by simpa [Value.cells] using hl) (by simp [h0]) _ _ 0 rfl, eh]
  have e1 : (List.take 0 (GHash.zero.cells ++ [Value.int .i64 0, .slice none 0 0]).toArray.toList ++ h.cells ++ List.drop (0 + 32) (GHash.zero.cells ++ [Value.int .i64 0, .slice none 0 0]).toArray.toList).toArray = (h.cells ++ [Value.int .i64 0, .slice none 0 0]).toArray := by
    simp only [List.take_zero, List.nil_append, Nat.zero_add]
    rw [List.drop_append_of_le_length (by omega), List.drop_of_length_le (by omega)]
    rfl
  rw [e1, fill_one 32 1 (.int .i64 cl) _ rfl (by simp [hl]) _ _ 1 rfl]
  have e2 : (List.take 32 (h.cells ++ [Value.int .i64 0, .slice none 0 0]).toArray.toList ++ (Value.int .i64 cl).cells.toList ++ List.drop (32 + 1) (h.cells ++ [Value.int .i64 0, .slice none 0 0]).toArray.toList).toArray = (h.cells ++ [Value.int .i64 cl, .slice none 0 0]).toArray := by
    simp only [List.take_append_of_le_length (by omega : 32 ≤ h.cells.length), List.take_of_length_le (by omega : h.cells.length ≤ 32)]
    rw [List.drop_append, hl, List.drop_of_length_le (by omega)]
    simp [Value.cells]
  rw [e2, fill_one 33 1 (.slice A n c) _ rfl (by simp [hl]) _ _ 2 rfl]
  simp only [Instr.fill]
  congr 1
  apply Array.toList_inj.1
  simp only [vertexL]
  rw [List.take_append, hl, List.take_of_length_le (by omega), List.drop_append, hl, List.drop_of_length_le (by omega)]
  simp [Value.cells]
theorem run_build_vertex (h : GHash) (cl : Int) (A : Option Addr) (n c : Nat) (w : World) : (Instr.build 50 #[(0, .agg h.cells.toArray), (1, .int .i64 cl), (2, .slice A n c)]).run Try.prog w = .ok (.agg (vertexL h cl (.slice A n c)).toArray) w := run_build w _ _ _ (built_vertex h cl A n c)
theorem exec_build_vertex {op : Oper} {a : Act} {w : World} (x y z : Operand) (ho : op.op = .build 50 #[(0, x), (1, y), (2, z)]) {h : GHash} {cl : Int} {A : Option Addr} {n c : Nat} (hx : a.eval x = .agg h.cells.toArray) (hy : a.eval y = .int .i64 cl) (hz : a.eval z = .slice A n c) :
    (execOp a.eval op).run Try.prog w = .ok (.value (.agg (vertexL h cl (.slice A n c)).toArray)) w := by
  unfold execOp
  simp only [ho, hx, hy, hz, List.map_toArray, List.map_cons, List.map_nil, Sem.run_bind, run_build_vertex, Result.andThen_ok, Sem.run_pure]
theorem vertexL_one (h : GHash) (cl : Int) (pv : Value) (hp : pv.oneCell' = true) : ∀ u ∈ vertexL h cl pv, u.oneCell' = true := by
  intro u hu
  rcases List.mem_append.1 hu with hu | hu
  · exact h.one u hu
  · simp only [List.mem_cons, List.mem_nil_iff, or_false] at hu
    rcases hu with rfl | rfl
    · rfl
    · exact hp
def VerP (w : World) (h : GHash) (cl : Int) (l : List GHash) (e' : Ending) (w' : World) : Prop := ∃ v, e' = .returned (.agg (vertexL h cl v).toArray) ∧ OwnH w' v l ∧ Mod [] w w' ∧ ∀ b ∈ blks v, w.heap.size ≤ b
theorem zeroVertex : (.cells #[.int .u8 0, .int .u8 0, .int .u8 0, .int .u8 0, .int .u8 0, .int .u8 0, .int .u8 0, .int .u8 0, .int .u8 0, .int .u8 0, .int .u8 0, .int .u8 0, .int .u8 0, .int .u8 0, .int .u8 0, .int .u8 0, .int .u8 0, .int .u8 0, .int .u8 0, .int .u8 0, .int .u8 0, .int .u8 0, .int .u8 0, .int .u8 0, .int .u8 0, .int .u8 0, .int .u8 0, .int .u8 0, .int .u8 0, .int .u8 0, .int .u8 0, .int .u8 0, .int .i64 0, .slice none 0 0] 50 : Obj) = .cells (vertexL GHash.zero 0 (.slice none 0 0)).toArray 50 := rfl
theorem vertex_any (h : GHash) (n : GNode) (gp go : Nat) (pv ov : Value) (w : World) (hN : NodR w n gp go pv ov) (hz : n.parents.length ≤ 5000000000000) :
    Calls Try.prog 19 #[entryV h n.author n.clock pv ov] w (VerP w h n.clock n.parents) := by
  have HS0 := Lib.hid hN.ps; clear hN
  obtain ⟨au, cl, ps, os⟩ := n
  dsimp only at *
  go_enter Try.func19, Try.ntmps19
  go_upto_region 1 with (first | ((with_reducible refine wpList_box_entry _ rfl ?hgd (h := h) (au := au) (cl := cl) (pv := pv) (ov := ov) ?hx ?_); (case hgd => exact rfl); (case hx => exact rfl); intro q1 w1 hv1 hm1 hq1 hl1; have HV1 := Lib.hid hv1; have HM1 := Lib.hid hm1; clear hv1 hm1))
  rw [zeroVertex]
  have HB2 := Lib.hid (Blk.new w1 50 (vertexL GHash.zero 0 (.slice none 0 0)).toArray)
  have hm2 : Mod [] w1 (w1.alloc (.cells (vertexL GHash.zero 0 (.slice none 0 0)).toArray 50)) := (Mod.refl [] w1).alloc _
  have HE2 := Lib.hid (HV1.out.mod hm2 (by simp))
  have HM2 := Lib.hid (HM1.out.trans hm2)
  have HQ : Hid (q1 ≠ w1.heap.size ∧ w.heap.size ≤ w1.heap.size) := Lib.hid ⟨by omega, HM1.out.size⟩
  obtain ⟨w2, hw2⟩ : ∃ w2, w1.alloc (.cells (vertexL GHash.zero 0 (.slice none 0 0)).toArray 50) = w2 := ⟨_, rfl⟩
  obtain ⟨q2, hq2⟩ : ∃ q2, w1.heap.size = q2 := ⟨_, rfl⟩
  rw [hw2] at HB2 HE2 HM2
  rw [hq2] at HB2 HQ
  rw [hw2, hq2]
  clear hw2 hq2 hm2 HM1 HV1 hq1 hl1
  have hw0 : Mod [q2] w2 w2.drew := (Mod.refl _ w2).drew
  have HL1 : Hid (∀ W, Mod [q2] w2 W → HashAt W q1 0 h) := Lib.hid (fun W hW => (HE2.out.mod hW (by simpa using HQ.out.1)).parts.2.1)
  have HL2 : Hid (∀ W, Mod [q2] w2 W → W.cell? ⟨q1, 33, none⟩ = some (.int .i64 cl)) := Lib.hid (fun W hW => (HE2.out.mod hW (by simpa using HQ.out.1)).parts.2.2.2.2.1)
  have HL3 : Hid (∀ W, Mod [q2] w2 W → W.cell? ⟨q1, 34, none⟩ = some pv) := Lib.hid (fun W hW => (HE2.out.mod hW (by simpa using HQ.out.1)).parts.2.2.2.2.2.1)
  have HS2 : Hid (HS w2.drew gp pv ps) := Lib.hid ((HS0.out.mod HM2.out (by simp)).mod (Mod.refl [] w2).drew (by simp))
  have HSZ : Hid (w.heap.size ≤ w2.heap.size ∧ q2 < w2.heap.size) := Lib.hid ⟨HM2.out.size, HB2.out.lt⟩
  refine wp_regionE (Mod [q2]) (by kernel_rfl) ?_
  simp only [List.size_toArray, List.length_cons, List.length_nil, Nat.zero_add, Nat.reduceAdd]
  refine wpAnyE_takeL (preMod _) 0 (v := ?_) rfl (by kernel_rfl) (by kernel_rfl) (by kernel_rfl) (fun _ _ _ h => h) (Or.inl ⟨by rfl, ?_⟩) ?_
  rotate_left; (intro W hW; (try dsimp only at hW); go_simp; try with_reducible rfl)
  (try simp only [Act.put, List.setIfInBounds_toArray, List.set_cons_zero, List.set_cons_succ])
  refine wpAnyE_takeL (preMod _) 1 (v := ?_) rfl (by kernel_rfl) (by kernel_rfl) (by kernel_rfl) (fun _ _ _ h => h) (Or.inl ⟨by rfl, ?_⟩) ?_
  rotate_left; (intro W hW; (try dsimp only at hW); refine (run_load_cells rtHash (.tmp 3) (by rfl) (by rfl) (GHash.cells_length _) (HL1.out W (hw0.trans hW))).trans ?_; try with_reducible rfl)
  (try simp only [Act.put, List.setIfInBounds_toArray, List.set_cons_zero, List.set_cons_succ])
  refine wpAnyE_takeL (preMod _) 2 (v := ?_) rfl (by kernel_rfl) (by kernel_rfl) (by kernel_rfl) (fun _ _ _ h => h) (Or.inl ⟨by rfl, ?_⟩) ?_
  rotate_left; (intro W hW; (try dsimp only at hW); go_simp; try with_reducible rfl)
  (try simp only [Act.put, List.setIfInBounds_toArray, List.set_cons_zero, List.set_cons_succ])
  refine wpAnyE_takeL (preMod _) 3 (v := ?_) rfl (by kernel_rfl) (by kernel_rfl) (by kernel_rfl) (fun _ _ _ h => h) (Or.inl ⟨by rfl, ?_⟩) ?_
  rotate_left; (intro W hW; (try dsimp only at hW); go_simp; try with_reducible rfl)
  (try simp only [Act.put, List.setIfInBounds_toArray, List.set_cons_zero, List.set_cons_succ])
  refine wpAnyE_takeL (preMod _) 4 (v := ?_) rfl (by kernel_rfl) (by kernel_rfl) (by kernel_rfl) (fun _ _ _ h => h) (Or.inl ⟨by rfl, ?_⟩) ?_
  rotate_left; (intro W hW; (try dsimp only at hW); (have hcw := HL2.out W (hw0.trans hW); go_simp); try with_reducible rfl)
  (try simp only [Act.put, List.setIfInBounds_toArray, List.set_cons_zero, List.set_cons_succ])
  refine wpAnyE_takeL (preMod _) 5 (v := ?_) rfl (by kernel_rfl) (by kernel_rfl) (by kernel_rfl) (fun _ _ _ h => h) (Or.inl ⟨by rfl, ?_⟩) ?_
  rotate_left; (intro W hW; (try dsimp only at hW); go_simp; try with_reducible rfl)
  (try simp only [Act.put, List.setIfInBounds_toArray, List.set_cons_zero, List.set_cons_succ])
  refine wpAnyE_takeL (preMod _) 6 (v := ?_) rfl (by kernel_rfl) (by kernel_rfl) (by kernel_rfl) (fun _ _ _ h => h) (Or.inl ⟨by rfl, ?_⟩) ?_
  rotate_left; (intro W hW; (try dsimp only at hW); go_simp; try with_reducible rfl)
  (try simp only [Act.put, List.setIfInBounds_toArray, List.set_cons_zero, List.set_cons_succ])
  refine wpAnyE_takeL (preMod _) 7 (v := ?_) rfl (by kernel_rfl) (by kernel_rfl) (by kernel_rfl) (fun _ _ _ h => h) (Or.inl ⟨by rfl, ?_⟩) ?_
  rotate_left; (intro W hW; (try dsimp only at hW); (have hcw := HL3.out W (hw0.trans hW); go_simp); try with_reducible rfl)
  (try simp only [Act.put, List.setIfInBounds_toArray, List.set_cons_zero, List.set_cons_succ])
  refine wpAnyE_ready (rs := [8]) (by kernel_rfl) (by simp) ?_
  refine AllReadyE.consL rfl (fun K hK => ?_) AllReadyE.nil
  rw [if_pos (by rfl)]
  refine opwp_of_list rfl (fun Q' hQ' => ?_)
  refine wpList_append_hashes rfl _ _ (by rfl) (OwnH.nil _) (by rfl) HS2.out (by rfl) ?_ (by simp; omega)
  intro A3 n3 c3 w3 hown3 hn3 hm3 hf3
  refine hQ' _ _ ?_
  have hm3' : Mod [] w2.drew w3 := hm3.mono (by simp [blks, Value.ownBlock])
  have hmE : Mod [q2] w2.drew w3 := hm3'.mono (by simp)
  have HO3 : Hid (OwnH w3 (.slice A3 n3 c3) ps) := Lib.hid (by simpa using hown3)
  have HM3 : Hid (Mod [] w2 w3) := Lib.hid (Mod.trans (Mod.refl [] w2).drew hm3')
  have HF3 : Hid (∀ b ∈ blks (.slice A3 n3 c3), b = w2.heap.size) := Lib.hid (fun b hb => by rcases hf3.out b hb with h1 | h1; (simp [blks, Value.ownBlock] at h1); simpa using h1)
  clear hown3 hm3 hf3 hn3 hm3'
  refine hK.out _ _ (by first | exact hmE | exact Mod.refl _ _ | exact (Mod.refl _ _).alloc _) ?_
  clear hK
  (try simp only [Act.put, List.setIfInBounds_toArray, List.set_cons_zero, List.set_cons_succ])
  refine wpAnyE_takeL (preMod _) 9 (v := ?_) rfl (by kernel_rfl) (by kernel_rfl) (by kernel_rfl) (fun _ _ _ h => h) (Or.inl ⟨by rfl, ?_⟩) ?_
  rotate_left; (intro W hW; (try dsimp only at hW); refine (exec_build_vertex (.tmp 4) (.tmp 7) (.tmp 11) (by rfl) (by rfl) (by rfl) (by rfl)).trans ?_; try with_reducible rfl)
  (try simp only [Act.put, List.setIfInBounds_toArray, List.set_cons_zero, List.set_cons_succ])
  refine wpAnyE_ready (rs := [10]) (by kernel_rfl) (by simp) ?_
  refine AllReadyE.consL rfl (fun K hK => ?_) AllReadyE.nil
  rw [if_pos (by rfl)]
  refine opwp_of_list rfl (fun Q' hQ' => ?_)
  refine wpList_store_blk rtVertex _ _ rfl (by rfl) (by rfl) (cells := vertexL h cl (.slice A3 n3 c3)) ?hy (HB2.out.mod HM3.out (by simp)) (vertexL_length _ _ _) (by simp [GHash.cells_length]) (vertexL_one _ _ _ rfl) ?_
  case hy => rfl
  intro w4 hb4 hm4
  refine hQ' _ _ ?_
  have hmE : Mod [q2] w3 w4 := hm4
  refine hK.out _ _ (by first | exact hmE | exact Mod.refl _ _ | exact (Mod.refl _ _).alloc _) ?_
  clear hK
  (try simp only [Act.put, List.setIfInBounds_toArray, List.set_cons_zero, List.set_cons_succ])
  refine wpAnyE_done (by kernel_rfl) ?_ _
  go_wp2_with fail
  refine bodyPost_ret (results_row rtVertex rfl rfl hb4 (by simp [GHash.cells_length])) rfl ?_
  refine ⟨.slice A3 n3 c3, rfl, HO3.out.mod hm4 (fun b hb => ?_), (HM2.out.trans HM3.out).then hm4 (by have := HQ.out; simp; omega), fun b hb => ?_⟩
  · have h1 := HF3.out b hb
    have h2 := HSZ.out
    simp
    omega
  · have h1 := HF3.out b hb
    have h2 := HSZ.out
    omega
theorem nodeSames_any (ha hb : GHash) (a b : GNode) (g1 o1 g2 o2 : Nat) (pv ov pu ou : Value) (w : World) (h1 : NodR w a g1 o1 pv ov) (h2 : NodR w b g2 o2 pu ou) (hz : a.parents.length ≤ 5000000000000) :
    Calls Try.prog 6 #[entryV ha a.author a.clock pv ov, entryV hb b.author b.clock pu ou] w fun e w' => e = .returned (.bool true) ∧ Mod [] w w' := by
  have HR1 := Lib.hid h1; clear h1
  have HR2 := Lib.hid h2; clear h2
  go_enter Try.func6, Try.ntmps6
  go_wp2_with (first | ((with_reducible refine wpList_box_entry _ rfl ?hgd (h := ha) (au := a.author) (cl := a.clock) (pv := pv) (ov := ov) ?hx ?_); (case hgd => exact rfl); (case hx => exact rfl); intro q1 w1 hv1 hm1 hq1 hl1; have HV1 := Lib.hid hv1; have HM1 := Lib.hid hm1; clear hv1 hm1) | ((with_reducible refine wpList_box_entry _ rfl ?hgd (h := hb) (au := b.author) (cl := b.clock) (pv := pu) (ov := ou) ?hx ?_); (case hgd => exact rfl); (case hx => exact rfl); intro q2 w2 hv2 hm2 hq2 hl2; have HA2 := Lib.hid (HV1.out.mod hm2 (by simp)); have HB2 := Lib.hid hv2; have HM2 := Lib.hid (HM1.out.trans hm2); clear hv2 hm2 HV1 HM1))
  refine (awake_any _).mono ?_
  rintro e' w3 ⟨rfl, hm3⟩
  have HA3 := Lib.hid (HA2.out.mod hm3 (by simp))
  have HB3 := Lib.hid (HB2.out.mod hm3 (by simp))
  have HM3 := Lib.hid (HM2.out.trans hm3)
  have HC3 := Lib.hid HA3.out.parts.1
  clear hm3 HA2 HB2 HM2
  go_wp2_with ((with_reducible refine wpList_load_entry _ rfl ?hgd HC3.out ?hx ?_); (case hgd => exact rfl); (case hx => exact rfl))
  refine (vertex_any ha a g1 o1 pv ov w3 (HR1.out.mod0 HM3.out) hz).mono ?_
  rintro e' w4 ⟨v4, rfl, hown4, hm4, _⟩
  obtain ⟨A4, c4, rfl, _, _⟩ := hown4.val
  have HO4 := Lib.hid hown4
  have HA4 := Lib.hid (HA3.out.mod hm4 (by simp))
  have HB4 := Lib.hid (HB3.out.mod hm4 (by simp))
  have HM4 := Lib.hid (HM3.out.trans hm4)
  clear hown4 hm4 HA3 HB3 HM3 HC3
  go_upto_region 4 with ((with_reducible refine wpList_store_blk rtVertex _ _ rfl ?hgd ?hx ?hy (Blk.new _ _ _) (vertexL_length ha a.clock (.slice A4 a.parents.length c4)) ?hold (vertexL_one _ _ _ rfl) ?_); (case hgd => exact rfl); (case hx => exact rfl); (case hy => exact rfl); (case hold => exact rfl); intro w5 hb5 hm5; have hmx : Mod [] w4 w5 := ((Mod.refl [] w4).alloc _).then hm5 (by simp); have HV5 := Lib.hid hb5; have HO5 := Lib.hid (HO4.out.mod hmx (by simp)); have HA5 := Lib.hid (HA4.out.mod hmx (by simp)); have HB5 := Lib.hid (HB4.out.mod hmx (by simp)); have HM5 := Lib.hid (HM4.out.trans hmx); clear hb5 hm5 hmx)
  obtain ⟨qv, hqv⟩ : ∃ qv, w4.heap.size = qv := ⟨_, rfl⟩
  rw [hqv] at HV5
  rw [hqv]
  clear hqv HO4 HA4 HB4 HM4
  have HSA : Hid (∀ W, Mod [] w5 W → Calls Try.prog 20 #[nodeV a.author a.clock pv ov, nodeV b.author b.clock pu ou] W fun e w' => e = .returned (.bool (nodeEq a b)) ∧ Mod [] W w') := Lib.hid (fun W hW => nodeSame_any a b g1 o1 g2 o2 pv ov pu ou W (HR1.out.mod0 (HM5.out.trans hW)) (HR2.out.mod0 (HM5.out.trans hW)))
  have HSR : Hid (∀ W, Mod [] w5 W → Calls Try.prog 13 #[nodeV a.author a.clock pv ov, nodeV b.author b.clock pu ou] W fun e w' => e = .returned (.bool (nodeEq a b)) ∧ Mod [] W w') := Lib.hid (fun W hW => refNodeSame_any a b g1 o1 g2 o2 pv ov pu ou W (HR1.out.mod0 (HM5.out.trans hW)) (HR2.out.mod0 (HM5.out.trans hW)))
  have HSB : Hid (∀ W, Mod [] w5 W → Calls Try.prog 20 #[nodeV b.author b.clock pu ou, nodeV b.author b.clock pu ou] W fun e w' => e = .returned (.bool true) ∧ Mod [] W w') := Lib.hid (fun W hW => by
    have h := nodeSame_any b b g2 o2 g2 o2 pu ou pu ou W (HR2.out.mod0 (HM5.out.trans hW)) (HR2.out.mod0 (HM5.out.trans hW))
    rw [nodeEq_true rfl rfl rfl rfl] at h
    exact h)
  have HEH : Hid (∀ W, Mod [] w5 W → Calls Try.prog 21 #[.slice A4 a.parents.length c4, pv] W fun e w' => e = .returned (.bool true) ∧ Mod [] W w') := Lib.hid (fun W hW => by
    obtain ⟨gx, hgx, _⟩ := (HO5.out.mod hW (by simp)).hs
    have h := refEqHashes_any a.parents a.parents gx g1 _ pv W hgx (HR1.out.mod0 (HM5.out.trans hW)).ps
    rw [decide_eq_true rfl] at h
    exact h)
  have HA : Hid (∀ W, Mod [] w5 W → CellsAt W q1 32 (nodeL a.author a.clock pv ov)) := Lib.hid (fun W hW => (HA5.out.mod hW (by simp)).parts.2.2.1)
  have HB : Hid (∀ W, Mod [] w5 W → CellsAt W q2 32 (nodeL b.author b.clock pu ou)) := Lib.hid (fun W hW => (HB5.out.mod hW (by simp)).parts.2.2.1)
  have HH1 : Hid (∀ W, Mod [] w5 W → HashAt W q1 0 ha) := Lib.hid (fun W hW => (HA5.out.mod hW (by simp)).parts.2.1)
  have HC33 : Hid (∀ W, Mod [] w5 W → W.cell? ⟨q1, 33, none⟩ = some (.int .i64 a.clock)) := Lib.hid (fun W hW => (HA5.out.mod hW (by simp)).parts.2.2.2.2.1)
  have HC34 : Hid (∀ W, Mod [] w5 W → W.cell? ⟨q1, 34, none⟩ = some pv) := Lib.hid (fun W hW => (HA5.out.mod hW (by simp)).parts.2.2.2.2.2.1)
  have HV : Hid (∀ W, Mod [] w5 W → CellsAt W qv 0 (vertexL ha a.clock (.slice A4 a.parents.length c4))) := Lib.hid (fun W hW => CellsAt.of_blk (HV5.out.mod hW (by simp)))
  have HHV : Hid (∀ W, Mod [] w5 W → HashAt W qv 0 ha) := Lib.hid (fun W hW => (HV.out W hW).left)
  have HV32 : Hid (∀ W, Mod [] w5 W → W.cell? ⟨qv, 32, none⟩ = some (.int .i64 a.clock)) := Lib.hid (fun W hW => ((HV.out W hW).right (GHash.cells_length ha)) 0 _ rfl)
  have HV33 : Hid (∀ W, Mod [] w5 W → W.cell? ⟨qv, 33, none⟩ = some (.slice A4 a.parents.length c4)) := Lib.hid (fun W hW => ((HV.out W hW).right (GHash.cells_length ha)) 1 _ rfl)
  have HF : Hid (Mod [] w5 w5.drew) := Lib.hid (Mod.refl _ w5).drew
  clear HV5 HA5 HB5 HO5
  generalize a.author = au at *
  generalize a.clock = cl at *
  generalize b.author = bu at *
  generalize b.clock = bl at *
  refine wp_regionE (Mod []) (by kernel_rfl) ?_
  simp only [List.size_toArray, List.length_cons, List.length_nil, Nat.zero_add, Nat.reduceAdd]
  refine wpAnyE_takeL (preMod _) 0 (v := ?_) rfl (by kernel_rfl) (by kernel_rfl) (by kernel_rfl) (fun _ _ _ h => h) (Or.inl ⟨by rfl, ?_⟩) ?_
  rotate_left; (intro W hW; (try dsimp only at hW); go_simp; try with_reducible rfl)
  (try simp only [Act.put, List.setIfInBounds_toArray, List.set_cons_zero, List.set_cons_succ])
  refine wpAnyE_takeL (preMod _) 1 (v := ?_) rfl (by kernel_rfl) (by kernel_rfl) (by kernel_rfl) (fun _ _ _ h => h) (Or.inl ⟨by rfl, ?_⟩) ?_
  rotate_left; (intro W hW; (try dsimp only at hW); refine (run_load_cells rtNode (.tmp 10) (by rfl) (by rfl) rfl (HA.out W (HF.out.trans hW))).trans ?_; try with_reducible rfl)
  (try simp only [Act.put, List.setIfInBounds_toArray, List.set_cons_zero, List.set_cons_succ])
  refine wpAnyE_takeL (preMod _) 2 (v := ?_) rfl (by kernel_rfl) (by kernel_rfl) (by kernel_rfl) (fun _ _ _ h => h) (Or.inl ⟨by rfl, ?_⟩) ?_
  rotate_left; (intro W hW; (try dsimp only at hW); go_simp; try with_reducible rfl)
  (try simp only [Act.put, List.setIfInBounds_toArray, List.set_cons_zero, List.set_cons_succ])
  refine wpAnyE_takeL (preMod _) 3 (v := ?_) rfl (by kernel_rfl) (by kernel_rfl) (by kernel_rfl) (fun _ _ _ h => h) (Or.inl ⟨by rfl, ?_⟩) ?_
  rotate_left; (intro W hW; (try dsimp only at hW); refine (run_load_cells rtNode (.tmp 12) (by rfl) (by rfl) rfl (HB.out W (HF.out.trans hW))).trans ?_; try with_reducible rfl)
  (try simp only [Act.put, List.setIfInBounds_toArray, List.set_cons_zero, List.set_cons_succ])
  refine wpAnyE_takeL (preMod _) 5 (v := ?_) rfl (by kernel_rfl) (by kernel_rfl) (by kernel_rfl) (fun _ _ _ h => h) (Or.inl ⟨by rfl, ?_⟩) ?_
  rotate_left; (intro W hW; (try dsimp only at hW); go_simp; try with_reducible rfl)
  (try simp only [Act.put, List.setIfInBounds_toArray, List.set_cons_zero, List.set_cons_succ])
  refine wpAnyE_takeL (preMod _) 6 (v := ?_) rfl (by kernel_rfl) (by kernel_rfl) (by kernel_rfl) (fun _ _ _ h => h) (Or.inl ⟨by rfl, ?_⟩) ?_
  rotate_left; (intro W hW; (try dsimp only at hW); refine (run_load_cells rtNode (.tmp 15) (by rfl) (by rfl) rfl (HA.out W (HF.out.trans hW))).trans ?_; try with_reducible rfl)
  (try simp only [Act.put, List.setIfInBounds_toArray, List.set_cons_zero, List.set_cons_succ])
  refine wpAnyE_takeL (preMod _) 7 (v := ?_) rfl (by kernel_rfl) (by kernel_rfl) (by kernel_rfl) (fun _ _ _ h => h) (Or.inl ⟨by rfl, ?_⟩) ?_
  rotate_left; (intro W hW; (try dsimp only at hW); go_simp; try with_reducible rfl)
  (try simp only [Act.put, List.setIfInBounds_toArray, List.set_cons_zero, List.set_cons_succ])
  refine wpAnyE_takeL (preMod _) 8 (v := ?_) rfl (by kernel_rfl) (by kernel_rfl) (by kernel_rfl) (fun _ _ _ h => h) (Or.inl ⟨by rfl, ?_⟩) ?_
  rotate_left; (intro W hW; (try dsimp only at hW); refine (run_load_cells rtNode (.tmp 17) (by rfl) (by rfl) rfl (HB.out W (HF.out.trans hW))).trans ?_; try with_reducible rfl)
  (try simp only [Act.put, List.setIfInBounds_toArray, List.set_cons_zero, List.set_cons_succ])
  refine wpAnyE_ready (rs := [4]) (by kernel_rfl) (by simp) ?_
  refine AllReadyE.consL rfl (fun K hK => ?_) AllReadyE.nil
  rw [if_pos (by rfl)]
  go_simp
  go_at_call 20
  refine (HSA.out _ HF.out).mono ?_
  rintro e' w6 ⟨rfl, hm6⟩
  have hmE := hm6
  have HFnew := Lib.hid (HF.out.trans hm6); clear HF; have HF := HFnew; clear HFnew
  go_wp2_with fail
  refine hK.out _ _ (by first | exact hmE | exact Mod.refl _ _ | exact (Mod.refl _ _).alloc _) ?_
  clear hK
  (try simp only [Act.put, List.setIfInBounds_toArray, List.set_cons_zero, List.set_cons_succ])
  refine wpAnyE_ready (rs := [9]) (by kernel_rfl) (by simp) ?_
  refine AllReadyE.consL rfl (fun K hK => ?_) AllReadyE.nil
  rw [if_pos (by rfl)]
  go_simp
  go_at_call 13
  refine (HSR.out _ HF.out).mono ?_
  rintro e' w7 ⟨rfl, hm7⟩
  have hmE := hm7
  have HFnew := Lib.hid (HF.out.trans hm7); clear HF; have HF := HFnew; clear HFnew
  go_wp2_with fail
  refine hK.out _ _ (by first | exact hmE | exact Mod.refl _ _ | exact (Mod.refl _ _).alloc _) ?_
  clear hK
  (try simp only [Act.put, List.setIfInBounds_toArray, List.set_cons_zero, List.set_cons_succ])
  refine wpAnyE_takeL (preMod _) 10 (v := ?_) rfl (by kernel_rfl) (by kernel_rfl) (by kernel_rfl) (fun _ _ _ h => h) (Or.inl ⟨by rfl, ?_⟩) ?_
  rotate_left; (intro W hW; (try dsimp only at hW); go_simp; try with_reducible rfl)
  (try simp only [Act.put, List.setIfInBounds_toArray, List.set_cons_zero, List.set_cons_succ])
  refine wpAnyE_takeL (preMod _) 11 (v := ?_) rfl (by kernel_rfl) (by kernel_rfl) (by kernel_rfl) (fun _ _ _ h => h) (Or.inl ⟨by rfl, ?_⟩) ?_
  rotate_left; (intro W hW; (try dsimp only at hW); go_simp; try with_reducible rfl)
  (try simp only [Act.put, List.setIfInBounds_toArray, List.set_cons_zero, List.set_cons_succ])
  refine wpAnyE_takeL (preMod _) 12 (v := ?_) rfl (by kernel_rfl) (by kernel_rfl) (by kernel_rfl) (fun _ _ _ h => h) (Or.inl ⟨by rfl, ?_⟩) ?_
  rotate_left; (intro W hW; (try dsimp only at hW); go_simp; try with_reducible rfl)
  (try simp only [Act.put, List.setIfInBounds_toArray, List.set_cons_zero, List.set_cons_succ])
  refine wpAnyE_takeL (preMod _) 13 (v := ?_) rfl (by kernel_rfl) (by kernel_rfl) (by kernel_rfl) (fun _ _ _ h => h) (Or.inl ⟨by rfl, ?_⟩) ?_
  rotate_left; (intro W hW; (try dsimp only at hW); refine (run_load_cells rtNode (.tmp 22) (by rfl) (by rfl) rfl (HB.out W (HF.out.trans hW))).trans ?_; try with_reducible rfl)
  (try simp only [Act.put, List.setIfInBounds_toArray, List.set_cons_zero, List.set_cons_succ])
  refine wpAnyE_takeL (preMod _) 14 (v := ?_) rfl (by kernel_rfl) (by kernel_rfl) (by kernel_rfl) (fun _ _ _ h => h) (Or.inl ⟨by rfl, ?_⟩) ?_
  rotate_left; (intro W hW; (try dsimp only at hW); go_simp; try with_reducible rfl)
  (try simp only [Act.put, List.setIfInBounds_toArray, List.set_cons_zero, List.set_cons_succ])
  refine wpAnyE_takeL (preMod _) 15 (v := ?_) rfl (by kernel_rfl) (by kernel_rfl) (by kernel_rfl) (fun _ _ _ h => h) (Or.inl ⟨by rfl, ?_⟩) ?_
  rotate_left; (intro W hW; (try dsimp only at hW); refine (run_load_cells rtNode (.tmp 24) (by rfl) (by rfl) rfl (HB.out W (HF.out.trans hW))).trans ?_; try with_reducible rfl)
  (try simp only [Act.put, List.setIfInBounds_toArray, List.set_cons_zero, List.set_cons_succ])
  refine wpAnyE_ready (rs := [16]) (by kernel_rfl) (by simp) ?_
  refine AllReadyE.consL rfl (fun K hK => ?_) AllReadyE.nil
  rw [if_pos (by rfl)]
  go_simp
  go_at_call 20
  refine (HSB.out _ HF.out).mono ?_
  rintro e' w8 ⟨rfl, hm8⟩
  have hmE := hm8
  have HFnew := Lib.hid (HF.out.trans hm8); clear HF; have HF := HFnew; clear HFnew
  go_wp2_with fail
  refine hK.out _ _ (by first | exact hmE | exact Mod.refl _ _ | exact (Mod.refl _ _).alloc _) ?_
  clear hK
  (try simp only [Act.put, List.setIfInBounds_toArray, List.set_cons_zero, List.set_cons_succ])
  refine wpAnyE_takeL (preMod _) 17 (v := ?_) rfl (by kernel_rfl) (by kernel_rfl) (by kernel_rfl) (fun _ _ _ h => h) (Or.inl ⟨by rfl, ?_⟩) ?_
  rotate_left; (intro W hW; (try dsimp only at hW); go_simp; try with_reducible rfl)
  (try simp only [Act.put, List.setIfInBounds_toArray, List.set_cons_zero, List.set_cons_succ])
  refine wpAnyE_takeL (preMod _) 18 (v := ?_) rfl (by kernel_rfl) (by kernel_rfl) (by kernel_rfl) (fun _ _ _ h => h) (Or.inl ⟨by rfl, ?_⟩) ?_
  rotate_left; (intro W hW; (try dsimp only at hW); go_simp; try with_reducible rfl)
  (try simp only [Act.put, List.setIfInBounds_toArray, List.set_cons_zero, List.set_cons_succ])
  refine wpAnyE_takeL (preMod _) 19 (v := ?_) rfl (by kernel_rfl) (by kernel_rfl) (by kernel_rfl) (fun _ _ _ h => h) (Or.inl ⟨by rfl, ?_⟩) ?_
  rotate_left; (intro W hW; (try dsimp only at hW); go_simp; try with_reducible rfl)
  (try simp only [Act.put, List.setIfInBounds_toArray, List.set_cons_zero, List.set_cons_succ])
  refine wpAnyE_takeL (preMod _) 20 (v := ?_) rfl (by kernel_rfl) (by kernel_rfl) (by kernel_rfl) (fun _ _ _ h => h) (Or.inl ⟨by rfl, ?_⟩) ?_
  rotate_left; (intro W hW; (try dsimp only at hW); refine (run_load_cells rtHash (.tmp 29) (by rfl) (by rfl) (GHash.cells_length _) (HHV.out W (HF.out.trans hW))).trans ?_; change Result.ok (Next.value (GHash.val ha)) W = _; try with_reducible rfl)
  (try simp only [Act.put, List.setIfInBounds_toArray, List.set_cons_zero, List.set_cons_succ])
  refine wpAnyE_takeL (preMod _) 21 (v := ?_) rfl (by kernel_rfl) (by kernel_rfl) (by kernel_rfl) (fun _ _ _ h => h) (Or.inl ⟨by rfl, ?_⟩) ?_
  rotate_left; (intro W hW; (try dsimp only at hW); go_simp; try with_reducible rfl)
  (try simp only [Act.put, List.setIfInBounds_toArray, List.set_cons_zero, List.set_cons_succ])
  refine wpAnyE_takeL (preMod _) 22 (v := ?_) rfl (by kernel_rfl) (by kernel_rfl) (by kernel_rfl) (fun _ _ _ h => h) (Or.inl ⟨by rfl, ?_⟩) ?_
  rotate_left; (intro W hW; (try dsimp only at hW); refine (run_load_cells rtHash (.tmp 31) (by rfl) (by rfl) (GHash.cells_length _) (HH1.out W (HF.out.trans hW))).trans ?_; change Result.ok (Next.value (GHash.val ha)) W = _; try with_reducible rfl)
  (try simp only [Act.put, List.setIfInBounds_toArray, List.set_cons_zero, List.set_cons_succ])
  refine wpAnyE_takeL (preMod _) 23 (v := ?_) rfl (by kernel_rfl) (by kernel_rfl) (by kernel_rfl) (fun _ _ _ h => h) (Or.inl ⟨by rfl, ?_⟩) ?_
  rotate_left; (intro W hW; (try dsimp only at hW); go_simp; try with_reducible rfl)
  (try simp only [Act.put, List.setIfInBounds_toArray, List.set_cons_zero, List.set_cons_succ])
  refine wpAnyE_takeL (preMod _) 24 (v := ?_) rfl (by kernel_rfl) (by kernel_rfl) (by kernel_rfl) (fun _ _ _ h => h) (Or.inl ⟨by rfl, ?_⟩) ?_
  rotate_left; (intro W hW; (try dsimp only at hW); go_simp; try with_reducible rfl)
  (try simp only [Act.put, List.setIfInBounds_toArray, List.set_cons_zero, List.set_cons_succ])
  refine wpAnyE_takeL (preMod _) 25 (v := ?_) rfl (by kernel_rfl) (by kernel_rfl) (by kernel_rfl) (fun _ _ _ h => h) (Or.inl ⟨by rfl, ?_⟩) ?_
  rotate_left; (intro W hW; (try dsimp only at hW); go_simp; try with_reducible rfl)
  (try simp only [Act.put, List.setIfInBounds_toArray, List.set_cons_zero, List.set_cons_succ])
  refine wpAnyE_takeL (preMod _) 26 (v := ?_) rfl (by kernel_rfl) (by kernel_rfl) (by kernel_rfl) (fun _ _ _ h => h) (Or.inl ⟨by rfl, ?_⟩) ?_
  rotate_left; (intro W hW; (try dsimp only at hW); go_simp; try with_reducible rfl)
  (try simp only [Act.put, List.setIfInBounds_toArray, List.set_cons_zero, List.set_cons_succ])
  refine wpAnyE_takeL (preMod _) 27 (v := ?_) rfl (by kernel_rfl) (by kernel_rfl) (by kernel_rfl) (fun _ _ _ h => h) (Or.inl ⟨by rfl, ?_⟩) ?_
  rotate_left; (intro W hW; (try dsimp only at hW); (have hcw := HV32.out W (HF.out.trans hW); go_simp); try with_reducible rfl)
  (try simp only [Act.put, List.setIfInBounds_toArray, List.set_cons_zero, List.set_cons_succ])
  refine wpAnyE_takeL (preMod _) 28 (v := ?_) rfl (by kernel_rfl) (by kernel_rfl) (by kernel_rfl) (fun _ _ _ h => h) (Or.inl ⟨by rfl, ?_⟩) ?_
  rotate_left; (intro W hW; (try dsimp only at hW); go_simp; try with_reducible rfl)
  (try simp only [Act.put, List.setIfInBounds_toArray, List.set_cons_zero, List.set_cons_succ])
  refine wpAnyE_takeL (preMod _) 29 (v := ?_) rfl (by kernel_rfl) (by kernel_rfl) (by kernel_rfl) (fun _ _ _ h => h) (Or.inl ⟨by rfl, ?_⟩) ?_
  rotate_left; (intro W hW; (try dsimp only at hW); go_simp; try with_reducible rfl)
  (try simp only [Act.put, List.setIfInBounds_toArray, List.set_cons_zero, List.set_cons_succ])
  refine wpAnyE_takeL (preMod _) 30 (v := ?_) rfl (by kernel_rfl) (by kernel_rfl) (by kernel_rfl) (fun _ _ _ h => h) (Or.inl ⟨by rfl, ?_⟩) ?_
  rotate_left; (intro W hW; (try dsimp only at hW); (have hcw := HC33.out W (HF.out.trans hW); go_simp); try with_reducible rfl)
  (try simp only [Act.put, List.setIfInBounds_toArray, List.set_cons_zero, List.set_cons_succ])
  refine wpAnyE_takeL (preMod _) 31 (v := ?_) rfl (by kernel_rfl) (by kernel_rfl) (by kernel_rfl) (fun _ _ _ h => h) (Or.inl ⟨by rfl, ?_⟩) ?_
  rotate_left; (intro W hW; (try dsimp only at hW); go_simp; try with_reducible rfl)
  (try simp only [Act.put, List.setIfInBounds_toArray, List.set_cons_zero, List.set_cons_succ])
  refine wpAnyE_takeL (preMod _) 32 (v := ?_) rfl (by kernel_rfl) (by kernel_rfl) (by kernel_rfl) (fun _ _ _ h => h) (Or.inl ⟨by rfl, ?_⟩) ?_
  rotate_left; (intro W hW; (try dsimp only at hW); go_simp; try with_reducible rfl)
  (try simp only [Act.put, List.setIfInBounds_toArray, List.set_cons_zero, List.set_cons_succ])
  refine wpAnyE_takeL (preMod _) 33 (v := ?_) rfl (by kernel_rfl) (by kernel_rfl) (by kernel_rfl) (fun _ _ _ h => h) (Or.inl ⟨by rfl, ?_⟩) ?_
  rotate_left; (intro W hW; (try dsimp only at hW); go_simp; try with_reducible rfl)
  (try simp only [Act.put, List.setIfInBounds_toArray, List.set_cons_zero, List.set_cons_succ])
  refine wpAnyE_takeL (preMod _) 34 (v := ?_) rfl (by kernel_rfl) (by kernel_rfl) (by kernel_rfl) (fun _ _ _ h => h) (Or.inl ⟨by rfl, ?_⟩) ?_
  rotate_left; (intro W hW; (try dsimp only at hW); go_simp; try with_reducible rfl)
  (try simp only [Act.put, List.setIfInBounds_toArray, List.set_cons_zero, List.set_cons_succ])
  refine wpAnyE_takeL (preMod _) 35 (v := ?_) rfl (by kernel_rfl) (by kernel_rfl) (by kernel_rfl) (fun _ _ _ h => h) (Or.inl ⟨by rfl, ?_⟩) ?_
  rotate_left; (intro W hW; (try dsimp only at hW); (have hcw := HV33.out W (HF.out.trans hW); go_simp); try with_reducible rfl)
  (try simp only [Act.put, List.setIfInBounds_toArray, List.set_cons_zero, List.set_cons_succ])
  refine wpAnyE_takeL (preMod _) 36 (v := ?_) rfl (by kernel_rfl) (by kernel_rfl) (by kernel_rfl) (fun _ _ _ h => h) (Or.inl ⟨by rfl, ?_⟩) ?_
  rotate_left; (intro W hW; (try dsimp only at hW); go_simp; try with_reducible rfl)
  (try simp only [Act.put, List.setIfInBounds_toArray, List.set_cons_zero, List.set_cons_succ])
  refine wpAnyE_takeL (preMod _) 37 (v := ?_) rfl (by kernel_rfl) (by kernel_rfl) (by kernel_rfl) (fun _ _ _ h => h) (Or.inl ⟨by rfl, ?_⟩) ?_
  rotate_left; (intro W hW; (try dsimp only at hW); go_simp; try with_reducible rfl)
  (try simp only [Act.put, List.setIfInBounds_toArray, List.set_cons_zero, List.set_cons_succ])
  refine wpAnyE_takeL (preMod _) 38 (v := ?_) rfl (by kernel_rfl) (by kernel_rfl) (by kernel_rfl) (fun _ _ _ h => h) (Or.inl ⟨by rfl, ?_⟩) ?_
  rotate_left; (intro W hW; (try dsimp only at hW); (have hcw := HC34.out W (HF.out.trans hW); go_simp); try with_reducible rfl)
  (try simp only [Act.put, List.setIfInBounds_toArray, List.set_cons_zero, List.set_cons_succ])
  refine wpAnyE_ready (rs := [39]) (by kernel_rfl) (by simp) ?_
  refine AllReadyE.consL rfl (fun K hK => ?_) AllReadyE.nil
  rw [if_pos (by rfl)]
  go_simp
  go_at_call 21
  refine (HEH.out _ HF.out).mono ?_
  rintro e' w9 ⟨rfl, hm9⟩
  have hmE := hm9
  have HFnew := Lib.hid (HF.out.trans hm9); clear HF; have HF := HFnew; clear HFnew
  go_wp2_with fail
  refine hK.out _ _ (by first | exact hmE | exact Mod.refl _ _ | exact (Mod.refl _ _).alloc _) ?_
  clear hK
  (try simp only [Act.put, List.setIfInBounds_toArray, List.set_cons_zero, List.set_cons_succ])
  refine wpAnyE_takeL (preMod _) 40 (v := ?_) rfl (by kernel_rfl) (by kernel_rfl) (by kernel_rfl) (fun _ _ _ h => h) (Or.inl ⟨by rfl, ?_⟩) ?_
  rotate_left; (intro W hW; (try dsimp only at hW); go_simp; try with_reducible rfl)
  (try simp only [Act.put, List.setIfInBounds_toArray, List.set_cons_zero, List.set_cons_succ])
  refine wpAnyE_takeL (preMod _) 41 (v := ?_) rfl (by kernel_rfl) (by kernel_rfl) (by kernel_rfl) (fun _ _ _ h => h) (Or.inl ⟨by rfl, ?_⟩) ?_
  rotate_left; (intro W hW; (try dsimp only at hW); go_simp; try with_reducible rfl)
  (try simp only [Act.put, List.setIfInBounds_toArray, List.set_cons_zero, List.set_cons_succ])
  refine wpAnyE_done (by kernel_rfl) ?_ _
  go_wp2
  go_ret
  exact ⟨rfl, HM5.out.trans HF.out⟩
end Go.Proofs.Ytlpjeckhejbkkaa
end

section
set_option linter.unusedVariables false
set_option linter.unusedSimpArgs false
set_option maxRecDepth 20000
set_option maxHeartbeats 1600000
namespace Go.Proofs.Ytlpjeckhejbkkaa
open Go.RowKit

/-! ### entries -/
abbrev nilS : Value := .slice none 0 0
theorem infoEntry : (Try.prog.info? 48).map (fun i => (i.zero, i.size, i.bytes)) = some (some (.agg (entryL GHash.zero 0 0 nilS nilS).toArray), 36, 96) := by kernel_rfl
theorem placesEntry : ((Try.prog.fieldsOf 48).toList.mapM (fun f => (Try.prog.info? f.type).map fun i => (f.offset, i.size))) = some [(0, 32), (32, 4)] := by kernel_rfl
theorem built_entry (h : GHash) (au cl : Int) (pv ov : Value) : Try.prog.built 48 [(0, .agg h.cells.toArray), (1, .agg (nodeL au cl pv ov).toArray)] = some (entryL h au cl pv ov).toArray := by
  obtain ⟨i, hi, hz, _, _⟩ := info_parts infoEntry
  have hp := placesEntry
  unfold Program.built
  simp only [hi, hz, Try.underlying48]
  simp only [Program.fieldsOf, Try.underlying48] at hp
  simp only [hp]
  have hl := GHash.cells_length h
  have h0 := GHash.cells_length GHash.zero
  have ez : (Value.agg (entryL GHash.zero 0 0 nilS nilS).toArray).cells = (GHash.zero.cells ++ nodeL 0 0 nilS nilS).toArray := rfl
  have eh : (Value.agg h.cells.toArray).cells.toList = h.cells := rfl
  rw [ez, fill_one 0 32 (.agg h.cells.toArray) _ (by simpa [Value.cells] using hl) (by simp [h0]) _ _ 0 rfl, eh]
  have e1 : (List.take 0 (GHash.zero.cells ++ nodeL 0 0 nilS nilS).toArray.toList ++ h.cells ++ List.drop (0 + 32) (GHash.zero.cells ++ nodeL 0 0 nilS nilS).toArray.toList).toArray = (h.cells ++ nodeL 0 0 nilS nilS).toArray := by
    simp only [List.take_zero, List.nil_append, Nat.zero_add]
    rw [List.drop_append_of_le_length (by omega), List.drop_of_length_le (by omega)]
    rfl
  rw [e1, fill_one 32 4 (.agg (nodeL au cl pv ov).toArray) _ rfl (by simp [hl]) _ _ 1 rfl]
  have e2 : (List.take 32 (h.cells ++ nodeL 0 0 nilS nilS).toArray.toList ++ (Value.agg (nodeL au cl pv ov).toArray).cells.toList ++ List.drop (32 + 4) (h.cells ++ nodeL 0 0 nilS nilS).toArray.toList).toArray = (h.cells ++ nodeL au cl pv ov).toArray := by
    simp only [List.take_append_of_le_length (by omega : 32 ≤ h.cells.length), List.take_of_length_le (by omega : h.cells.length ≤ 32)]
    rw [List.drop_append, hl, List.drop_of_length_le (by omega)]
    simp [Value.cells]
  rw [e2]
  rfl
theorem exec_build_entry {op : Oper} {a : Act} {w : World} (x y : Operand) (ho : op.op = .build 48 #[(0, x), (1, y)]) {h : GHash} {au cl : Int} {pv ov : Value} (hx : a.eval x = h.val) (hy : a.eval y = .agg (nodeL au cl pv ov).toArray) :
    (execOp a.eval op).run Try.prog w = .ok (.value (entryV h au cl pv ov)) w := by
  unfold execOp
  have hx' : a.eval x = .agg h.cells.toArray := hx
  simp only [ho, hx', hy, List.map_toArray, List.map_cons, List.map_nil, Sem.run_bind, run_build w _ _ _ (built_entry h au cl pv ov), Result.andThen_ok, Sem.run_pure]
theorem entryL_one (h : GHash) (au cl : Int) (pv ov : Value) (hp : pv.oneCell' = true) (ho : ov.oneCell' = true) : ∀ u ∈ entryL h au cl pv ov, u.oneCell' = true := by
  intro u hu
  rcases List.mem_append.1 hu with hu | hu
  · exact h.one u hu
  · simp only [nodeL, List.mem_cons, List.mem_nil_iff, or_false] at hu
    rcases hu with rfl | rfl | rfl | rfl
    · rfl
    · rfl
    · exact hp
    · exact ho
def EntP (w : World) (sh : GHash) (res : Rd GNode) (e' : Ending) (w' : World) : Prop :=
  match res with
  | .ok n _ => ∃ pv ov, e' = .returned (.tuple #[entryV sh n.author n.clock pv ov, .nilIface]) ∧ OwnH w' pv n.parents ∧ OwnO w' ov n.ops ∧ Mod [] w w'
  | .bad why at_ => ∃ q, e' = .returned (.tuple #[entryV GHash.zero 0 0 nilS nilS, badV q]) ∧ BadAt w' q why at_ ∧ Mod [] w w'
theorem entry_any (xs : Bytes) (g : Nat) (sv : Value) (w : World) (hs : BS w g sv xs) :
    Calls Try.prog 22 #[sv] w (EntP w (shaOf xs) (rdNode xs)) := by
  have HDEC : Hid (∀ W, Mod [] w W → Calls Try.prog 11 #[sv] W (DecP W (rdNode xs))) := Lib.hid (fun W hW => decode_any xs g sv W (RS.mod hs hW (by simp)))
  have HSHA : Hid (∀ W, Mod [] w W → xs.length ≤ 1048576 → Calls Try.prog 24 #[sv] W fun e w' => e = .returned (shaOf xs).val ∧ Mod [] W w') := Lib.hid (fun W hW hx => shaOf_any g sv xs W (RS.mod hs hW (by simp)) (by omega))
  have HLEN : Hid (∀ n p, rdNode xs = .ok n p → xs.length ≤ 1048576) := Lib.hid (fun n p h => (node_oneform h).2.2.2.2)
  clear hs
  generalize rdNode xs = res at *
  generalize shaOf xs = sh at *
  go_enter Try.func22, Try.ntmps22
  go_upto_region 1 with fail
  have HB1 := Lib.hid (Blk.new w 48 (entryL GHash.zero 0 0 nilS nilS).toArray)
  have HM1 := Lib.hid ((Mod.refl [] w).alloc (.cells (entryL GHash.zero 0 0 nilS nilS).toArray 48))
  obtain ⟨q2, hq2⟩ : ∃ q, w.heap.size = q := ⟨_, rfl⟩
  obtain ⟨w1, hw1⟩ : ∃ w1, w.alloc (.cells (entryL GHash.zero 0 0 nilS nilS).toArray 48) = w1 := ⟨_, rfl⟩
  change Code.wp _ _ _ _ (w.alloc (.cells (entryL GHash.zero 0 0 nilS nilS).toArray 48))
  rw [hw1] at HB1 HM1 ⊢
  rw [hq2] at HB1 ⊢
  have HQ2 : Hid (w.heap.size = q2) := Lib.hid hq2
  clear hw1 hq2
  go_wp2_with fail
  refine (HDEC.out w1 HM1.out).mono ?_
  intro e' w2 hdec
  clear HDEC
  cases res with
  | bad why at_ =>
    obtain ⟨b, rfl, hbad, hm2, hbq⟩ := hdec
    have HB2 := Lib.hid (HB1.out.mod hm2 (by simp))
    have HM2 := Lib.hid (HM1.out.trans hm2)
    have HBD := Lib.hid hbad
    have HBQ : Hid (q2 < b) := Lib.hid (by have := HB1.out.lt; omega)
    clear hbad hm2 hbq HB1 HM1 HSHA HLEN
    unfold badV
    have hz1 := entryL_one GHash.zero 0 0 nilS nilS rfl rfl
    go_wp2_with (first | ((with_reducible refine wpList_store_node (au := 0) (cl := 0) (pv := .slice none 0 0) (ov := .slice none 0 0) _ _ rfl ?hgd ?hx ?hy (Blk.new _ _ _) ?hold ?hp ?hv ?_); (case hgd => exact rfl); (case hx => exact rfl); (case hy => exact rfl); (case hold => exact rfl); (case hp => exact rfl); (case hv => exact rfl); intro w5 hb5 hm5; have HM5 : Hid (Mod [] w2 w5) := Lib.hid (((Mod.refl [] w2).alloc _).then hm5 (by simp)); have HB5 := Lib.hid (HB2.out.mod HM5.out (by simp)); clear hb5 hm5 HB2) | ((with_reducible refine wpList_store_blk rtEntry (cells := entryL GHash.zero 0 0 nilS nilS) _ _ rfl ?hgd ?hx ?hy HB5.out (entryL_length _ _ _ _ _) ?hold hz1 ?_); (case hgd => exact rfl); (case hx => exact rfl); (case hy => exact rfl); (case hold => exact rfl); intro w9 hb9 hm9; have HB9 := Lib.hid hb9; have HM9 := Lib.hid ((HM5.out.mono (by simp) : Mod [q2] w2 w5).trans hm9)))
    refine bodyPost_ret (results_row_tmp rtEntry rfl rfl HB9.out (by simp [GHash.cells_length])) rfl ⟨b, rfl, HBD.out.mod HM9.out (by have := HBQ.out; simp; omega), HM2.out.then HM9.out (by have := HQ2.out; simp; omega)⟩
  | ok n pos =>
    obtain ⟨pv, ov, rfl, hown1, hown2, hf1, hf2, hm2⟩ := hdec
    obtain ⟨pA, pc, rfl, _, _⟩ := hown1.val
    obtain ⟨oA, oc, rfl, _, _⟩ := hown2.val
    have HLX := Lib.hid (HLEN.out n pos rfl)
    have HB2 := Lib.hid (HB1.out.mod hm2 (by simp))
    have HM2 := Lib.hid (HM1.out.trans hm2)
    have HO1 := Lib.hid hown1
    have HO2 := Lib.hid hown2
    have HF1 : Hid (∀ b ∈ blks (.slice pA n.parents.length pc), b ≠ q2) := Lib.hid (fun b hb => by have := hf1 b hb; have := HB1.out.lt; omega)
    have HF2 : Hid (∀ b ∈ blks (.slice oA n.ops.length oc), b ≠ q2) := Lib.hid (fun b hb => by have := hf2 b hb; have := HB1.out.lt; omega)
    have HQW : Hid (q2 < w2.heap.size) := Lib.hid HB2.out.lt
    clear hown1 hown2 hf1 hf2 hm2 HB1 HM1 HLEN
    obtain ⟨au, cl, ps, os⟩ := n
    dsimp only at *
    have hz1 := entryL_one sh au cl (.slice pA ps.length pc) (.slice oA os.length oc) rfl rfl
    go_wp2_with (first | ((with_reducible refine wpList_store_node (au := au) (cl := cl) (pv := .slice pA ps.length pc) (ov := .slice oA os.length oc) _ _ rfl ?hgd ?hx ?hy (Blk.new _ _ _) ?hold ?hp ?hv ?_); (case hgd => exact rfl); (case hx => exact rfl); (case hy => exact rfl); (case hold => exact rfl); (case hp => exact rfl); (case hv => exact rfl); intro w5 hb5 hm5; have HM25 : Hid (Mod [] w2 w5) := Lib.hid (((Mod.refl [] w2).alloc _).then hm5 (by simp)); have HN5 := Lib.hid hb5; have HB5 := Lib.hid (HB2.out.mod HM25.out (by simp)); clear hb5 hm5 HB2))
    have HQ24 := HQW
    clear HQW
    obtain ⟨q4, hq4⟩ : ∃ q, w2.heap.size = q := ⟨_, rfl⟩
    rw [hq4] at HN5 HQ24 ⊢
    clear hq4
    have HM5 := Lib.hid (HM2.out.trans HM25.out)
    have HO15 := Lib.hid (HO1.out.mod HM25.out (by simp))
    have HO25 := Lib.hid (HO2.out.mod HM25.out (by simp))
    clear HM25 HO1 HO2 HM2
    have hw0 : Mod [q2] w5 w5.drew := (Mod.refl _ w5).drew
    have HW0 : Hid (Mod [] w5 w5.drew) := Lib.hid (Mod.refl _ w5).drew
    have HL : Hid (∀ W, Mod [q2] w5 W → CellsAt W q4 0 (nodeL au cl (.slice pA ps.length pc) (.slice oA os.length oc))) := Lib.hid (fun W hW => CellsAt.of_blk (Blk.mod HN5.out hW (by have := HQ24.out; simp; omega)))
    refine wp_regionE (Mod [q2]) (by kernel_rfl) ?_
    simp only [List.size_toArray, List.length_cons, List.length_nil, Nat.zero_add, Nat.reduceAdd]
    refine wpAnyE_takeL (preMod _) 0 (v := ?_) rfl (by kernel_rfl) (by kernel_rfl) (by kernel_rfl) (fun _ _ _ h => h) (Or.inl ⟨by rfl, ?_⟩) ?_
    rotate_left; (intro W hW; (try dsimp only at hW); go_simp; try with_reducible rfl)
    (try simp only [Act.put, List.setIfInBounds_toArray, List.set_cons_zero, List.set_cons_succ])
    refine wpAnyE_takeL (preMod _) 2 (v := ?_) rfl (by kernel_rfl) (by kernel_rfl) (by kernel_rfl) (fun _ _ _ h => h) (Or.inl ⟨by rfl, ?_⟩) ?_
    rotate_left; (intro W hW; (try dsimp only at hW); refine (run_load_cells rtNode (.tmp 4) (by rfl) (by rfl) rfl (HL.out W (hw0.trans hW))).trans ?_; try with_reducible rfl)
    (try simp only [Act.put, List.setIfInBounds_toArray, List.set_cons_zero, List.set_cons_succ])
    refine wpAnyE_ready (rs := [1]) (by kernel_rfl) (by simp) ?_
    refine AllReadyE.consL rfl (fun K hK => ?_) AllReadyE.nil
    rw [if_pos (by rfl)]
    go_simp
    go_at_call 24
    refine (HSHA.out w5.drew (HM5.out.trans HW0.out) HLX.out).mono ?_
    rintro e' w6 ⟨rfl, hm6⟩
    have hmE : Mod [q2] w5.drew w6 := hm6.mono (by simp)
    have HM56 := Lib.hid (HW0.out.trans hm6)
    have HB6 := Lib.hid (HB5.out.mod HM56.out (by simp))
    clear hm6
    go_wp2_with fail
    refine hK.out _ _ (by first | exact hmE | exact Mod.refl _ _ | exact (Mod.refl _ _).alloc _) ?_
    clear hK
    (try simp only [Act.put, List.setIfInBounds_toArray, List.set_cons_zero, List.set_cons_succ])
    refine wpAnyE_takeL (preMod _) 3 (v := ?_) rfl (by kernel_rfl) (by kernel_rfl) (by kernel_rfl) (fun _ _ _ h => h) (Or.inl ⟨by rfl, ?_⟩) ?_
    rotate_left; (intro W hW; (try dsimp only at hW); refine (exec_build_entry (.tmp 16) (.tmp 17) (h := sh) (au := au) (cl := cl) (pv := .slice pA ps.length pc) (ov := .slice oA os.length oc) (by rfl) (by rfl) (by rfl)).trans ?_; try with_reducible rfl)
    (try simp only [Act.put, List.setIfInBounds_toArray, List.set_cons_zero, List.set_cons_succ])
    refine wpAnyE_ready (rs := [4]) (by kernel_rfl) (by simp) ?_
    refine AllReadyE.consL rfl (fun K hK => ?_) AllReadyE.nil
    rw [if_pos (by rfl)]
    refine opwp_of_list rfl (fun Q' hQ' => ?_)
    refine wpList_store_blk rtEntry _ _ rfl (by rfl) (by rfl) (cells := entryL sh au cl (.slice pA ps.length pc) (.slice oA os.length oc)) ?hy HB6.out (entryL_length _ _ _ _ _) (by simp [GHash.cells_length]) hz1 ?_
    case hy => rfl
    intro w7 hb7 hm7
    refine hQ' _ _ ?_
    have hmE : Mod [q2] w6 w7 := hm7
    have HB7 := Lib.hid hb7
    refine hK.out _ _ (by first | exact hmE | exact Mod.refl _ _ | exact (Mod.refl _ _).alloc _) ?_
    clear hK
    (try simp only [Act.put, List.setIfInBounds_toArray, List.set_cons_zero, List.set_cons_succ])
    refine wpAnyE_takeL (preMod _) 5 (v := ?_) rfl (by kernel_rfl) (by kernel_rfl) (by kernel_rfl) (fun _ _ _ h => h) (Or.inl ⟨by rfl, ?_⟩) ?_
    rotate_left; (intro W hW; (try dsimp only at hW); go_simp; try with_reducible rfl)
    (try simp only [Act.put, List.setIfInBounds_toArray, List.set_cons_zero, List.set_cons_succ])
    refine wpAnyE_done (by kernel_rfl) ?_ _
    go_wp2_with fail
    refine bodyPost_ret (results_row_tmp rtEntry rfl rfl HB7.out (by simp [GHash.cells_length])) rfl ?_
    refine ⟨_, _, rfl, (HO15.out.mod HM56.out (by simp)).mod hmE (fun b hb => by have := HF1.out b hb; simpa using this), (HO25.out.mod HM56.out (by simp)).mod hmE (fun b hb => by have := HF2.out b hb; simpa using this), (HM5.out.trans HM56.out).then hmE (by have := HQ2.out; simp; omega)⟩
end Go.Proofs.Ytlpjeckhejbkkaa
end

section
set_option linter.unusedVariables false
set_option linter.unusedSimpArgs false
set_option maxRecDepth 20000
set_option maxHeartbeats 800000
namespace Go.Proofs.Ytlpjeckhejbkkaa
open Go.RowKit

/-! ### append onto a slice without room: new memory -/
theorem run_append_full {P : Program} (w : World) {t tx ty e : TypeId} {sz bytes : Nat} (E : ElemT P t e sz bytes)
    {g : Nat} {A : Option Addr} {n : Nat} {xs : List Value} (hr : RS w sz g (.slice A n n) n xs) {x : Value} {m : Nat} {news : List Value} (hs : Src P sz tx x m news w) (hm : 0 < m)
    (h63 : n + m ≤ maxLen) (hbytes : ((n + m) + (n + m) / 4 + 192) * bytes ≤ 281474976710656) :
    ∃ v' w', (Builtin.append_ #[t, tx] ty #[.slice A n n, x]).run P w = .ok v' w' ∧ w'.ownsRow 0 e sz v' (n + m) (xs ++ news) ∧ Mod [] w w' ∧ (∀ b ∈ blks v', b = w.heap.size) := by
  obtain ⟨i, z, ht, hi, hz, hsz, hby, hzs, h0⟩ := E
  subst hsz
  subst hby
  have hsmall : n + m ≤ 9223372036854775807 := by simp only [maxLen] at h63; omega
  have hlen : (xs ++ news).length = (n + m) * i.size := by rw [List.length_append, hr.1, hs.newsLen, Nat.add_mul]
  have hge := grownCap_ge w (n + m) n e
  have hcm : grownCap w (n + m) n e ≤ maxLen := grownCap_le_maxLen w (n + m) n e h63
  have hfc : (Builtin.firstCells i.size n (.slice A n n)).run P w.drew = .ok xs.toArray w.drew := by
    by_cases hn : 0 < n
    · obtain ⟨off, cap, hv, _, _, _, hc⟩ := hr.at_ hn
      injection hv with hA _ _
      subst hA
      refine run_firstCells_some w.drew i.size n _ n n xs hr.1 (fun j u hu => ?_)
      have := hc j u hu
      rw [Addr.add_mid]
      exact this
    · obtain rfl : n = 0 := by omega
      have hx : xs = [] := List.eq_nil_of_length_eq_zero (by simpa using hr.1)
      subst hx
      cases A with
      | none => exact run_firstCells_none w.drew i.size 0 0 0
      | some a => exact run_firstCells_some w.drew i.size 0 a 0 0 [] (by simp) (by simp)
  have hrun := run_append_grow_src (P := P) w t tx ty e i z ht hi hz A n n xs hfc x m news hs (by omega) (by omega) (growslice_fits_wide (by omega) hbytes)
  refine ⟨_, _, hrun, ⟨hlen, .inr ⟨w.heap.size, _, _, rfl, Nat.zero_le _, heap_alloc_new w.drew _, hge, hcm, ?_, ?_⟩⟩, (Mod.refl _ w).drew.alloc _, ?_⟩
  · simp only [Array.size_append, List.size_toArray, size_zeroCells, hzs, hlen, ← Nat.add_mul]
    congr 1
    omega
  · simp only [Array.toList_append]
    rw [← hlen]
    exact List.take_left
  · intro b hb
    simp only [blks, Value.ownBlock, Option.toList_some, List.mem_singleton] at hb
    exact hb
theorem wpList_append_full_bytes {ops : Array Oper} {rest : List Oper} {o : Oper} {a : Act} {Q : Exit → Act → World → Prop} {w : World} (hgd : Region.wanted o (yielded ops a.tmps) = true) (s x : Operand)
    (ho : o.op = .call { callee := .builtin .append, args := #[s, x], argTypes := #[27, 27] })
    {A : Option Addr} {g0 : Nat} {xs : Bytes} (hown : BS w g0 (.slice A xs.length xs.length) xs) (hs : a.eval s = .slice A xs.length xs.length) {g : Nat} {sv : Value} {ys : Bytes} (hr : BS w g sv ys) (hx : a.eval x = sv) (h0 : 0 < ys.length)
    (h : ∀ A' n' cap' w', OwnB w' (.slice A' n' cap') (xs ++ ys) → Hid (n' = xs.length + ys.length) → Mod [] w w' → Hid (∀ b ∈ blks (.slice A' n' cap'), b = w.heap.size) → wpList Try.prog ops Q rest (a.put o.dst (.slice A' n' cap')) w') (hz : xs.length + ys.length ≤ 200000000000000) :
    wpList Try.prog ops Q (o :: rest) a w := by
  refine BigFrame.wpList_want hgd fun K hK => ?_
  obtain ⟨v', w', hrun, h2, h3, h4⟩ := run_append_full (P := Try.prog) w (ty := o.type) etBytes hown (Src.of_rs w Try.underlying27 hr (bv_one ys)) h0 (by unfold maxLen; omega) (by omega)
  obtain ⟨A', cap', rfl, _, _⟩ := own_slice h2
  unfold Oper.wp execOp
  simp only [ho, resolve, invoke, builtin, Sem.run_bind, Sem.run_pure, Result.andThen_ok, List.map_toArray, List.map_cons, List.map_nil, hs, hx, hrun]
  refine hK _ _ (h A' _ cap' w' ?_ (Lib.hid rfl) h3 (Lib.hid h4))
  unfold OwnB
  rw [List.length_append, List.map_append]
  exact h2
end Go.Proofs.Ytlpjeckhejbkkaa
end

section
set_option linter.unusedVariables false
set_option linter.unusedSimpArgs false
set_option maxRecDepth 20000
set_option maxHeartbeats 1600000
namespace Go.Proofs.Ytlpjeckhejbkkaa
open Go.RowKit

theorem encOf_zero {n : GNode} (h : (encOf n).2 = 0) : checkNode n = 0 ∧ (nodeBlock n).length ≤ 1048576 ∧ encOf n = (nodeBlock n, 0) := by
  unfold encOf at h ⊢
  by_cases h0 : checkNode n = 0
  · rw [if_pos h0] at h ⊢
    by_cases h1 : 1048576 < (nodeBlock n).length
    · rw [if_pos h1] at h; cases h
    · rw [if_neg h1]
      exact ⟨h0, by omega, rfl⟩
  · rw [if_neg h0] at h
    exact absurd h h0
theorem nodeSame_nil (w : World) : Calls Try.prog 13 #[nodeV 0 0 (.slice none 0 0) (.slice none 0 0), nodeV 0 0 (.slice none 0 0) (.slice none 0 0)] w fun e w' => e = .returned (.bool true) ∧ Mod [] w w' := by
  have h := refNodeSame_any ⟨0, 0, [], []⟩ ⟨0, 0, [], []⟩ 0 0 0 0 _ _ _ _ w (nodR_nil w 0 0) (nodR_nil w 0 0)
  rw [nodeEq_true rfl rfl rfl rfl] at h
  exact h
theorem nodeRest_any (n : GNode) (gp go : Nat) (pv ov : Value) (more : Bytes) (gm : Nat) (vm : Value) (cut : Int) (w : World) (hN : NodR w n gp go pv ov) (hn : ∀ o ∈ n.ops, o.nums) (hM : BS w gm vm more) (hz : more.length ≤ 140737488355328) :
    Calls Try.prog 4 #[nodeV n.author n.clock pv ov, vm, .int .i64 cut] w fun e w' => e = .returned (.bool true) ∧ Mod [] w w' := by
  obtain ⟨mA, mc, rfl, hmc1, hmc2⟩ := hM.val
  unfold maxLen at hmc2
  have HN := Lib.hid hN; clear hN
  have HM := Lib.hid hM; clear hM
  have HEN : Hid (∀ W, Mod [] w W → Calls Try.prog 10 #[nodeV n.author n.clock pv ov] W (EncP W (encOf n))) := Lib.hid (fun W hW => encode_any n gp go pv ov W (HN.out.mod0 hW) hn)
  have HE0 := Lib.hid (@encOf_zero n)
  have hlaw1 := fun (h : checkNode n = 0) (C : Bytes) (hC : 0 < C.length) (hz : (nodeBlock n).length + C.length ≤ 1048576) => node_more h hn hC hz
  have hlaw2 := fun (h : checkNode n = 0) (hz : (nodeBlock n).length ≤ 1048576) (k : Nat) (hk : k < (nodeBlock n).length) => node_short h hn hz hk
  have HL1 := Lib.hid hlaw1; clear hlaw1
  have HL2 := Lib.hid hlaw2; clear hlaw2
  clear hn
  generalize encOf n = r at *
  generalize checkNode n = ck at *
  generalize nodeBlock n = B at *
  generalize n.author = au at *
  generalize n.clock = cl at *
  go_enter Try.func4, Try.ntmps4
  go_wp2_with (first | ((with_reducible refine wpList_box_node _ rfl ?hgd (au := au) (cl := cl) (pv := pv) (ov := ov) ?hx ?_); (case hgd => exact rfl); (case hx => exact rfl); intro q1 w1 hv1 hm1 hq1 hl1; have HV1 := Lib.hid hv1; have HM1 := Lib.hid hm1; clear hv1 hm1))
  refine (awake_any _).mono ?_
  rintro e' w2 ⟨rfl, hm2⟩
  have HM2 := Lib.hid (HM1.out.trans hm2)
  obtain ⟨_, _, _, _, HC⟩ := (HV1.out.mod hm2 (by simp)).open_
  clear hm2 HM1 HV1
  go_wp2_with (first | ((with_reducible refine wpList_load_node _ rfl ?hgd HC.out ?hx ?_); (case hgd => exact rfl); (case hx => exact rfl)))
  refine (HEN.out w2 HM2.out).mono ?_
  rintro e' w3 ⟨v3, rfl, hown3, hm3, hf3⟩
  have HM3 := Lib.hid (HM2.out.trans hm3)
  by_cases h0 : r.2 = 0
  · obtain ⟨hck, hlen, hr⟩ := HE0.out h0
    rw [hr] at hown3 ⊢
    obtain ⟨g3, hb3, _⟩ := hown3.bs
    obtain ⟨A3, c3, rfl, hc31, hc32⟩ := hb3.val
    unfold maxLen at hc32
    have hc33 : B.length ≤ c3 := hc31
    have HB3 : Hid (BS w3 g3 (.slice A3 B.length c3) B) := Lib.hid hb3
    have HLA := Lib.hid (HL1.out hck more)
    have HLB := Lib.hid (HL2.out hck hlen)
    clear hown3 hm3 hf3 hb3 HM2 HE0 hck hr h0 HL1 HL2 HEN HC
    have hl0 : 0 < B.length → True := fun _ => trivial
    by_cases hcut : 0 ≤ cut ∧ cut < B.length
    · obtain ⟨k, hk⟩ : ∃ k : Nat, cut = (k : Int) := ⟨cut.toNat, by omega⟩
      subst hk
      have hkl : k < B.length := by omega
      have hki : (k : Int) < (B.length : Int) := by omega
      have hkc : (k : Int) ≤ (c3 : Int) := by omega
      by_cases hmore : 0 < more.length ∧ B.length + more.length ≤ 1048576
      · obtain ⟨hm0, hm1⟩ := hmore
        have hm0i : (0 : Int) < more.length := by omega
        have hm1i : ((B.length : Int) + more.length) ≤ 1048576 := by omega
        have HBX : Hid (BS w3 g3 (.slice A3 B.length B.length) B) := Lib.hid (by
          obtain ⟨hl, A, cap, hv, hn, hc, hf⟩ := HB3.out
          injection hv with hA _ _
          subst hA
          exact ⟨hl, A3, B.length, rfl, Nat.le_refl _, by unfold maxLen; omega, hf⟩)
        have HMX : Hid (BS w3 gm (.slice mA more.length mc) more) := Lib.hid (HM.out.mod HM3.out (by simp))
        go_wp2_with (at_builtin; refine wpList_append_full_bytes rfl _ _ rfl HBX.out rfl HMX.out rfl hm0 ?_ ?hz; intro A4 n4 c4 w4 hown4 hn4 hm4 HF4; obtain ⟨g4, hb4, _⟩ := hown4.bs; have HD4 := Lib.hid (decode_any (B ++ more) g4 _ w4 hb4); have HM4 := Lib.hid hm4; clear hown4 hm4 HF4 hb4 hn4)
        case hz => omega
        rw [HLA.out hm0 hm1] at HD4
        clear HBX HMX
        refine HD4.out.mono ?_
        clear HD4
        rintro e' w5 ⟨b, rfl, hbad, hm5, _⟩
        have HBD5 := Lib.hid hbad
        have HM5 := Lib.hid hm5
        clear hbad hm5
        go_wp2_with ((with_reducible refine wpList_store_node (au := 0) (cl := 0) (pv := .slice none 0 0) (ov := .slice none 0 0) _ _ rfl ?hgd ?hx ?hy (Blk.new _ _ _) ?hold ?hp ?hv ?_); (case hgd => exact rfl); (case hx => exact rfl); (case hy => exact rfl); (case hold => exact rfl); (case hp => exact rfl); (case hv => exact rfl); intro w6 hb6 hm6; have hmx : Mod [] w5 w6 := ((Mod.refl [] w5).alloc _).then hm6 (by simp); have HN6 := Lib.hid hb6; have HBD6 := Lib.hid (Blk.mod HBD5.out hmx (by simp)); have HM6 := Lib.hid (HM5.out.trans hmx); clear hb6 hm6 hmx)
        have HTO := Lib.hid (told_bad w6 b 23 B.length HBD6.out (by decide))
        refine HTO.out.mono ?_
        rintro e' w7 ⟨rfl, hm7⟩
        have HM7 := Lib.hid (HM6.out.trans hm7)
        have HN7 := Lib.hid (HN6.out.mod hm7 (by simp))
        obtain ⟨q9, hq9⟩ : ∃ q9, w5.heap.size = q9 := ⟨_, rfl⟩
        rw [hq9] at HN7
        rw [hq9]
        clear hm7 HBD5 HM5 HN6 HBD6 HM6 HTO hq9
        unfold errV
        go_upto_region 9 with fail
        have hm8 : Mod [] w7 (w7.alloc (.cells #[.int .i64 23, .int .i64 ((B.length : Nat) : Int)] 36)) := (Mod.refl [] w7).alloc _
        have HE8 := Lib.hid (Blk.new w7 36 #[.int .i64 23, .int .i64 ((B.length : Nat) : Int)])
        have HN8 := Lib.hid (HN7.out.mod hm8 (by simp))
        have HM8 := Lib.hid (HM7.out.trans hm8)
        obtain ⟨w8, hw8⟩ : ∃ w8, w7.alloc (.cells #[.int .i64 23, .int .i64 ((B.length : Nat) : Int)] 36) = w8 := ⟨_, rfl⟩
        obtain ⟨z, hz8⟩ : ∃ z, w7.heap.size = z := ⟨_, rfl⟩
        rw [hw8] at HE8 HN8 HM8
        rw [hz8] at HE8
        rw [hw8, hz8]
        clear hw8 hz8 hm8 HN7 HM7
        have e0 := HE8.out.cell 0
        have e1 := HE8.out.cell 1
        obtain ⟨_, _, _, _, HC8⟩ := HN8.out.open_
        go_wp2_with (first | ((with_reducible refine wpList_load_node _ rfl ?hgd HC8.out ?hx ?_); (case hgd => exact rfl); (case hx => exact rfl)))
        refine (nodeSame_nil _).mono ?_
        rintro e' w9 ⟨rfl, hm9⟩
        have HMW : Hid (Mod [] w w9) := Lib.hid ((HM3.out.trans HM4.out).trans (HM8.out.trans hm9))
        have HBW : Hid (BS w9 g3 (.slice A3 B.length c3) B) := Lib.hid (HB3.out.mod (HM4.out.trans (HM8.out.trans hm9)) (by simp))
        clear hm9 e0 e1 HC8 HE8 HN8 HM8 HM4 HB3 HM3 hm0 hm1 hm0i hm1i
        obtain ⟨a, hak, hda⟩ := HLB.out k hkl
        have HD := Lib.hid (decode_any (B.take k) g3 (.slice A3 k c3) _ (by have h := BS.take HBW.out (n := k) (by omega); exact h))
        rw [hda] at HD
        clear hda
        go_wp2_with fail
        refine HD.out.mono ?_
        clear HD
        have haki : (a : Int) ≤ (k : Int) := by omega
        rintro e' w5 ⟨b, rfl, hbad, hm5, _⟩
        have HBD5 := Lib.hid hbad
        have HM5 := Lib.hid hm5
        clear hbad hm5
        go_wp2_with ((with_reducible refine wpList_store_node (au := 0) (cl := 0) (pv := .slice none 0 0) (ov := .slice none 0 0) _ _ rfl ?hgd ?hx ?hy (Blk.new _ _ _) ?hold ?hp ?hv ?_); (case hgd => exact rfl); (case hx => exact rfl); (case hy => exact rfl); (case hold => exact rfl); (case hp => exact rfl); (case hv => exact rfl); intro w6 hb6 hm6; have hmx : Mod [] w5 w6 := ((Mod.refl [] w5).alloc _).then hm6 (by simp); have HN6 := Lib.hid hb6; have HBD6 := Lib.hid (Blk.mod HBD5.out hmx (by simp)); have HM6 := Lib.hid (HM5.out.trans hmx); clear hb6 hm6 hmx)
        have HTO := Lib.hid (told_bad w6 b 20 a HBD6.out (by decide))
        refine HTO.out.mono ?_
        rintro e' w7 ⟨rfl, hm7⟩
        have HM7 := Lib.hid (HM6.out.trans hm7)
        have HN7 := Lib.hid (HN6.out.mod hm7 (by simp))
        obtain ⟨q9, hq9⟩ : ∃ q9, w5.heap.size = q9 := ⟨_, rfl⟩
        rw [hq9] at HN7
        rw [hq9]
        clear hm7 HBD5 HM5 HN6 HBD6 HM6 HTO hq9
        unfold errV
        go_upto_region 15 with fail
        have hm8 : Mod [] w7 (w7.alloc (.cells #[.int .i64 20, .int .i64 ((a : Nat) : Int)] 36)) := (Mod.refl [] w7).alloc _
        have HE8 := Lib.hid (Blk.new w7 36 #[.int .i64 20, .int .i64 ((a : Nat) : Int)])
        have HN8 := Lib.hid (HN7.out.mod hm8 (by simp))
        have HM8 := Lib.hid (HM7.out.trans hm8)
        obtain ⟨w8, hw8⟩ : ∃ w8, w7.alloc (.cells #[.int .i64 20, .int .i64 ((a : Nat) : Int)] 36) = w8 := ⟨_, rfl⟩
        obtain ⟨z, hz8⟩ : ∃ z, w7.heap.size = z := ⟨_, rfl⟩
        rw [hw8] at HE8 HN8 HM8
        rw [hz8] at HE8
        rw [hw8, hz8]
        clear hw8 hz8 hm8 HN7 HM7
        have e0 := HE8.out.cell 0
        have e1 := HE8.out.cell 1
        obtain ⟨_, _, _, _, HC8⟩ := HN8.out.open_
        go_wp2_with (first | ((with_reducible refine wpList_load_node _ rfl ?hgd HC8.out ?hx ?_); (case hgd => exact rfl); (case hx => exact rfl)))
        refine (nodeSame_nil _).mono ?_
        rintro e' w9 ⟨rfl, hm9⟩
        go_wp2_with fail
        go_ret
        exact ⟨rfl, HMW.out.trans (HM8.out.trans hm9)⟩
      · have HMW := HM3
        have HBW : Hid (BS w3 g3 (.slice A3 B.length c3) B) := HB3
        clear HM3 HB3
        by_cases hm0 : (0 : Int) < more.length
        · have hm1 : ¬ ((B.length : Int) + more.length ≤ 1048576) := by omega
          obtain ⟨a, hak, hda⟩ := HLB.out k hkl
          have HD := Lib.hid (decode_any (B.take k) g3 (.slice A3 k c3) _ (by have h := BS.take HBW.out (n := k) (by omega); exact h))
          rw [hda] at HD
          clear hda
          go_wp2_with fail
          refine HD.out.mono ?_
          clear HD
          have haki : (a : Int) ≤ (k : Int) := by omega
          rintro e' w5 ⟨b, rfl, hbad, hm5, _⟩
          have HBD5 := Lib.hid hbad
          have HM5 := Lib.hid hm5
          clear hbad hm5
          go_wp2_with ((with_reducible refine wpList_store_node (au := 0) (cl := 0) (pv := .slice none 0 0) (ov := .slice none 0 0) _ _ rfl ?hgd ?hx ?hy (Blk.new _ _ _) ?hold ?hp ?hv ?_); (case hgd => exact rfl); (case hx => exact rfl); (case hy => exact rfl); (case hold => exact rfl); (case hp => exact rfl); (case hv => exact rfl); intro w6 hb6 hm6; have hmx : Mod [] w5 w6 := ((Mod.refl [] w5).alloc _).then hm6 (by simp); have HN6 := Lib.hid hb6; have HBD6 := Lib.hid (Blk.mod HBD5.out hmx (by simp)); have HM6 := Lib.hid (HM5.out.trans hmx); clear hb6 hm6 hmx)
          have HTO := Lib.hid (told_bad w6 b 20 a HBD6.out (by decide))
          refine HTO.out.mono ?_
          rintro e' w7 ⟨rfl, hm7⟩
          have HM7 := Lib.hid (HM6.out.trans hm7)
          have HN7 := Lib.hid (HN6.out.mod hm7 (by simp))
          obtain ⟨q9, hq9⟩ : ∃ q9, w5.heap.size = q9 := ⟨_, rfl⟩
          rw [hq9] at HN7
          rw [hq9]
          clear hm7 HBD5 HM5 HN6 HBD6 HM6 HTO hq9
          unfold errV
          go_upto_region 15 with fail
          have hm8 : Mod [] w7 (w7.alloc (.cells #[.int .i64 20, .int .i64 ((a : Nat) : Int)] 36)) := (Mod.refl [] w7).alloc _
          have HE8 := Lib.hid (Blk.new w7 36 #[.int .i64 20, .int .i64 ((a : Nat) : Int)])
          have HN8 := Lib.hid (HN7.out.mod hm8 (by simp))
          have HM8 := Lib.hid (HM7.out.trans hm8)
          obtain ⟨w8, hw8⟩ : ∃ w8, w7.alloc (.cells #[.int .i64 20, .int .i64 ((a : Nat) : Int)] 36) = w8 := ⟨_, rfl⟩
          obtain ⟨z, hz8⟩ : ∃ z, w7.heap.size = z := ⟨_, rfl⟩
          rw [hw8] at HE8 HN8 HM8
          rw [hz8] at HE8
          rw [hw8, hz8]
          clear hw8 hz8 hm8 HN7 HM7
          have e0 := HE8.out.cell 0
          have e1 := HE8.out.cell 1
          obtain ⟨_, _, _, _, HC8⟩ := HN8.out.open_
          go_wp2_with (first | ((with_reducible refine wpList_load_node _ rfl ?hgd HC8.out ?hx ?_); (case hgd => exact rfl); (case hx => exact rfl)))
          refine (nodeSame_nil _).mono ?_
          rintro e' w9 ⟨rfl, hm9⟩
          go_wp2_with fail
          go_ret
          exact ⟨rfl, HMW.out.trans (HM8.out.trans hm9)⟩
        · obtain ⟨a, hak, hda⟩ := HLB.out k hkl
          have HD := Lib.hid (decode_any (B.take k) g3 (.slice A3 k c3) _ (by have h := BS.take HBW.out (n := k) (by omega); exact h))
          rw [hda] at HD
          clear hda
          go_wp2_with fail
          refine HD.out.mono ?_
          clear HD
          have haki : (a : Int) ≤ (k : Int) := by omega
          rintro e' w5 ⟨b, rfl, hbad, hm5, _⟩
          have HBD5 := Lib.hid hbad
          have HM5 := Lib.hid hm5
          clear hbad hm5
          go_wp2_with ((with_reducible refine wpList_store_node (au := 0) (cl := 0) (pv := .slice none 0 0) (ov := .slice none 0 0) _ _ rfl ?hgd ?hx ?hy (Blk.new _ _ _) ?hold ?hp ?hv ?_); (case hgd => exact rfl); (case hx => exact rfl); (case hy => exact rfl); (case hold => exact rfl); (case hp => exact rfl); (case hv => exact rfl); intro w6 hb6 hm6; have hmx : Mod [] w5 w6 := ((Mod.refl [] w5).alloc _).then hm6 (by simp); have HN6 := Lib.hid hb6; have HBD6 := Lib.hid (Blk.mod HBD5.out hmx (by simp)); have HM6 := Lib.hid (HM5.out.trans hmx); clear hb6 hm6 hmx)
          have HTO := Lib.hid (told_bad w6 b 20 a HBD6.out (by decide))
          refine HTO.out.mono ?_
          rintro e' w7 ⟨rfl, hm7⟩
          have HM7 := Lib.hid (HM6.out.trans hm7)
          have HN7 := Lib.hid (HN6.out.mod hm7 (by simp))
          obtain ⟨q9, hq9⟩ : ∃ q9, w5.heap.size = q9 := ⟨_, rfl⟩
          rw [hq9] at HN7
          rw [hq9]
          clear hm7 HBD5 HM5 HN6 HBD6 HM6 HTO hq9
          unfold errV
          go_upto_region 15 with fail
          have hm8 : Mod [] w7 (w7.alloc (.cells #[.int .i64 20, .int .i64 ((a : Nat) : Int)] 36)) := (Mod.refl [] w7).alloc _
          have HE8 := Lib.hid (Blk.new w7 36 #[.int .i64 20, .int .i64 ((a : Nat) : Int)])
          have HN8 := Lib.hid (HN7.out.mod hm8 (by simp))
          have HM8 := Lib.hid (HM7.out.trans hm8)
          obtain ⟨w8, hw8⟩ : ∃ w8, w7.alloc (.cells #[.int .i64 20, .int .i64 ((a : Nat) : Int)] 36) = w8 := ⟨_, rfl⟩
          obtain ⟨z, hz8⟩ : ∃ z, w7.heap.size = z := ⟨_, rfl⟩
          rw [hw8] at HE8 HN8 HM8
          rw [hz8] at HE8
          rw [hw8, hz8]
          clear hw8 hz8 hm8 HN7 HM7
          have e0 := HE8.out.cell 0
          have e1 := HE8.out.cell 1
          obtain ⟨_, _, _, _, HC8⟩ := HN8.out.open_
          go_wp2_with (first | ((with_reducible refine wpList_load_node _ rfl ?hgd HC8.out ?hx ?_); (case hgd => exact rfl); (case hx => exact rfl)))
          refine (nodeSame_nil _).mono ?_
          rintro e' w9 ⟨rfl, hm9⟩
          go_wp2_with fail
          go_ret
          exact ⟨rfl, HMW.out.trans (HM8.out.trans hm9)⟩
    · by_cases hmore : 0 < more.length ∧ B.length + more.length ≤ 1048576
      · obtain ⟨hm0, hm1⟩ := hmore
        have hm0i : (0 : Int) < more.length := by omega
        have hm1i : ((B.length : Int) + more.length) ≤ 1048576 := by omega
        have HBX : Hid (BS w3 g3 (.slice A3 B.length B.length) B) := Lib.hid (by
          obtain ⟨hl, A, cap, hv, hn, hc, hf⟩ := HB3.out
          injection hv with hA _ _
          subst hA
          exact ⟨hl, A3, B.length, rfl, Nat.le_refl _, by unfold maxLen; omega, hf⟩)
        have HMX : Hid (BS w3 gm (.slice mA more.length mc) more) := Lib.hid (HM.out.mod HM3.out (by simp))
        go_wp2_with (at_builtin; refine wpList_append_full_bytes rfl _ _ rfl HBX.out rfl HMX.out rfl hm0 ?_ ?hz; intro A4 n4 c4 w4 hown4 hn4 hm4 HF4; obtain ⟨g4, hb4, _⟩ := hown4.bs; have HD4 := Lib.hid (decode_any (B ++ more) g4 _ w4 hb4); have HM4 := Lib.hid hm4; clear hown4 hm4 HF4 hb4 hn4)
        case hz => omega
        rw [HLA.out hm0 hm1] at HD4
        clear HBX HMX
        refine HD4.out.mono ?_
        clear HD4
        rintro e' w5 ⟨b, rfl, hbad, hm5, _⟩
        have HBD5 := Lib.hid hbad
        have HM5 := Lib.hid hm5
        clear hbad hm5
        go_wp2_with ((with_reducible refine wpList_store_node (au := 0) (cl := 0) (pv := .slice none 0 0) (ov := .slice none 0 0) _ _ rfl ?hgd ?hx ?hy (Blk.new _ _ _) ?hold ?hp ?hv ?_); (case hgd => exact rfl); (case hx => exact rfl); (case hy => exact rfl); (case hold => exact rfl); (case hp => exact rfl); (case hv => exact rfl); intro w6 hb6 hm6; have hmx : Mod [] w5 w6 := ((Mod.refl [] w5).alloc _).then hm6 (by simp); have HN6 := Lib.hid hb6; have HBD6 := Lib.hid (Blk.mod HBD5.out hmx (by simp)); have HM6 := Lib.hid (HM5.out.trans hmx); clear hb6 hm6 hmx)
        have HTO := Lib.hid (told_bad w6 b 23 B.length HBD6.out (by decide))
        refine HTO.out.mono ?_
        rintro e' w7 ⟨rfl, hm7⟩
        have HM7 := Lib.hid (HM6.out.trans hm7)
        have HN7 := Lib.hid (HN6.out.mod hm7 (by simp))
        obtain ⟨q9, hq9⟩ : ∃ q9, w5.heap.size = q9 := ⟨_, rfl⟩
        rw [hq9] at HN7
        rw [hq9]
        clear hm7 HBD5 HM5 HN6 HBD6 HM6 HTO hq9
        unfold errV
        go_upto_region 9 with fail
        have hm8 : Mod [] w7 (w7.alloc (.cells #[.int .i64 23, .int .i64 ((B.length : Nat) : Int)] 36)) := (Mod.refl [] w7).alloc _
        have HE8 := Lib.hid (Blk.new w7 36 #[.int .i64 23, .int .i64 ((B.length : Nat) : Int)])
        have HN8 := Lib.hid (HN7.out.mod hm8 (by simp))
        have HM8 := Lib.hid (HM7.out.trans hm8)
        obtain ⟨w8, hw8⟩ : ∃ w8, w7.alloc (.cells #[.int .i64 23, .int .i64 ((B.length : Nat) : Int)] 36) = w8 := ⟨_, rfl⟩
        obtain ⟨z, hz8⟩ : ∃ z, w7.heap.size = z := ⟨_, rfl⟩
        rw [hw8] at HE8 HN8 HM8
        rw [hz8] at HE8
        rw [hw8, hz8]
        clear hw8 hz8 hm8 HN7 HM7
        have e0 := HE8.out.cell 0
        have e1 := HE8.out.cell 1
        obtain ⟨_, _, _, _, HC8⟩ := HN8.out.open_
        go_wp2_with (first | ((with_reducible refine wpList_load_node _ rfl ?hgd HC8.out ?hx ?_); (case hgd => exact rfl); (case hx => exact rfl)))
        refine (nodeSame_nil _).mono ?_
        rintro e' w9 ⟨rfl, hm9⟩
        have HMW : Hid (Mod [] w w9) := Lib.hid ((HM3.out.trans HM4.out).trans (HM8.out.trans hm9))
        have HBW : Hid (BS w9 g3 (.slice A3 B.length c3) B) := Lib.hid (HB3.out.mod (HM4.out.trans (HM8.out.trans hm9)) (by simp))
        clear hm9 e0 e1 HC8 HE8 HN8 HM8 HM4 HB3 HM3 hm0 hm1 hm0i hm1i
        by_cases hneg : cut < 0
        · go_wp2_with fail
          go_ret
          exact ⟨rfl, HMW.out⟩
        · have hge : (B.length : Int) ≤ cut := by omega
          go_wp2_with fail
          go_ret
          exact ⟨rfl, HMW.out⟩
      · have HMW := HM3
        have HBW : Hid (BS w3 g3 (.slice A3 B.length c3) B) := HB3
        clear HM3 HB3
        by_cases hm0 : (0 : Int) < more.length
        · have hm1 : ¬ ((B.length : Int) + more.length ≤ 1048576) := by omega
          by_cases hneg : cut < 0
          · go_wp2_with fail
            go_ret
            exact ⟨rfl, HMW.out⟩
          · have hge : (B.length : Int) ≤ cut := by omega
            go_wp2_with fail
            go_ret
            exact ⟨rfl, HMW.out⟩
        · by_cases hneg : cut < 0
          · go_wp2_with fail
            go_ret
            exact ⟨rfl, HMW.out⟩
          · have hge : (B.length : Int) ≤ cut := by omega
            go_wp2_with fail
            go_ret
            exact ⟨rfl, HMW.out⟩
  · have hr0 : ((r.2 : Int) == 0) = false := by simp; omega
    have hr1 : ¬ ((r.2 : Int) = 0) := by omega
    obtain ⟨A3, c3, rfl, _, _⟩ := hown3.val
    clear hown3 hm3 hf3 HM2 HE0
    go_wp2_with fail
    go_ret
    exact ⟨rfl, HM3.out⟩
end Go.Proofs.Ytlpjeckhejbkkaa
end

section
set_option linter.unusedVariables false
set_option linter.unusedSimpArgs false
set_option maxRecDepth 20000
set_option maxHeartbeats 1600000
namespace Go.Proofs.Ytlpjeckhejbkkaa
open Go.RowKit

theorem zeroEntry_run (w : World) : (zeroValue 48).run Try.prog w = .ok (.agg (entryL GHash.zero 0 0 nilS nilS).toArray) w := zero_run (by kernel_rfl) w
theorem nodeReturns_any (n : GNode) (gp go : Nat) (pv ov : Value) (w : World) (hN : NodR w n gp go pv ov) (hn : ∀ o ∈ n.ops, o.nums) :
    Calls Try.prog 8 #[nodeV n.author n.clock pv ov] w fun e w' => e = .returned (.bool true) ∧ Mod [] w w' := by
  have HN := Lib.hid hN; clear hN
  have HEN : Hid (∀ W, Mod [] w W → Calls Try.prog 10 #[nodeV n.author n.clock pv ov] W (EncP W (encOf n))) := Lib.hid (fun W hW => encode_any n gp go pv ov W (HN.out.mod0 hW) hn)
  have HCK : Hid (∀ W, Mod [] w W → Calls Try.prog 15 #[nodeV n.author n.clock pv ov] W fun e w' => e = .returned (.int .i64 (checkNode n)) ∧ Mod [] W w') := Lib.hid (fun W hW => nodeCheck_any n gp go pv ov W (HN.out.mod0 hW))
  have HSZ : Hid (∀ W, Mod [] w W → Calls Try.prog 17 #[nodeV n.author n.clock pv ov] W fun e w' => e = .returned (.int .i64 (sizeOf_ n)) ∧ Mod [] W w') := Lib.hid (fun W hW => nodeSize_any n gp go pv ov W (HN.out.mod0 hW) hn)
  go_enter Try.func8, Try.ntmps8
  go_wp2_with (first | ((with_reducible refine wpList_box_node _ rfl ?hgd (au := n.author) (cl := n.clock) (pv := pv) (ov := ov) ?hx ?_); (case hgd => exact rfl); (case hx => exact rfl); intro q1 w1 hv1 hm1 hq1 hl1; have HV1 := Lib.hid hv1; have HM1 := Lib.hid hm1; clear hv1 hm1))
  refine (awake_any _).mono ?_
  rintro e' w2 ⟨rfl, hm2⟩
  have HM2 := Lib.hid (HM1.out.trans hm2)
  have HV2 := Lib.hid (HV1.out.mod hm2 (by simp))
  obtain ⟨_, _, _, _, HC⟩ := HV2.out.open_
  clear hm2 HM1 HV1
  go_wp2_with (first | ((with_reducible refine wpList_load_node _ rfl ?hgd HC.out ?hx ?_); (case hgd => exact rfl); (case hx => exact rfl)))
  refine (HEN.out w2 HM2.out).mono ?_
  rintro e' w3 ⟨v3, rfl, hown3, hm3, hf3⟩
  have HM3 := Lib.hid (HM2.out.trans hm3)
  have HV3 := Lib.hid (HV2.out.mod hm3 (by simp))
  have HO3 := Lib.hid hown3
  clear hm3 hf3 hown3 HM2 HV2 HC
  obtain ⟨_, _, _, _, HC⟩ := HV3.out.open_
  obtain ⟨r, hr⟩ : ∃ r, encOf n = r := ⟨_, rfl⟩
  obtain ⟨ck, hck⟩ : ∃ ck, checkNode n = ck := ⟨_, rfl⟩
  have HR := Lib.hid hr
  have HCKE := Lib.hid hck
  rw [hr] at HO3 ⊢
  rw [hck] at HCK
  clear hr hck
  obtain ⟨A3, c3, rfl, hc31, hc32⟩ := HO3.out.val
  go_wp2_with (first | ((with_reducible refine wpList_load_node _ rfl ?hgd HC.out ?hx ?_); (case hgd => exact rfl); (case hx => exact rfl)))
  refine (HCK.out w3 HM3.out).mono ?_
  rintro e' w4 ⟨rfl, hm4⟩
  have HM4 := Lib.hid (HM3.out.trans hm4)
  have HV4 := Lib.hid (HV3.out.mod hm4 (by simp))
  have HO4 := Lib.hid (HO3.out.mod hm4 (by simp))
  clear hm4 HM3 HV3 HO3 HC
  obtain ⟨_, _, _, _, HC⟩ := HV4.out.open_
  by_cases h0 : ck = 0
  · by_cases hbig : 1048576 < (nodeBlock n).length
    · have hr4 : r = ([], 4) := by rw [← HR.out]; unfold encOf; rw [if_pos (HCKE.out.trans h0), if_pos hbig]
      subst hr4 h0
      have hsz : sizeOf_ n = (nodeBlock n).length := by unfold sizeOf_; rw [if_pos HCKE.out]
      rw [hsz] at HSZ
      have hbi : (1048576 : Int) < ((nodeBlock n).length : Int) := by omega
      have hb0 : ¬ (((nodeBlock n).length : Int) = 0) := by omega
      go_wp2_with (first | ((with_reducible refine wpList_load_node _ rfl ?hgd HC.out ?hx ?_); (case hgd => exact rfl); (case hx => exact rfl)))
      refine (HSZ.out w4 HM4.out).mono ?_
      rintro e' w5 ⟨rfl, hm5⟩
      go_wp2_with fail
      go_ret
      exact ⟨rfl, HM4.out.trans hm5⟩
    · have hr4 : r = (nodeBlock n, 0) := by rw [← HR.out]; unfold encOf; rw [if_pos (HCKE.out.trans h0), if_neg hbig]
      subst hr4 h0
      have hsz : sizeOf_ n = (nodeBlock n).length := by unfold sizeOf_; rw [if_pos HCKE.out]
      have hret := node_returns HCKE.out hn (by omega)
      rw [hsz] at HSZ
      obtain ⟨g3, hb3, _⟩ := HO4.out.bs
      have HDEC : Hid (∀ W, Mod [] w4 W → Calls Try.prog 11 #[.slice A3 (nodeBlock n).length c3] W (DecP W (.ok n (nodeBlock n).length))) := Lib.hid (fun W hW => by
        have h := decode_any (nodeBlock n) g3 _ W (RS.mod hb3 hW (by simp)); rw [hret] at h; exact h)
      have HENT : Hid (∀ W, Mod [] w4 W → Calls Try.prog 22 #[.slice A3 (nodeBlock n).length c3] W (EntP W (shaOf (nodeBlock n)) (.ok n (nodeBlock n).length))) := Lib.hid (fun W hW => by
        have h := entry_any (nodeBlock n) g3 _ W (RS.mod hb3 hW (by simp)); rw [hret] at h; exact h)
      have HSHA : Hid (∀ W, Mod [] w4 W → Calls Try.prog 24 #[.slice A3 (nodeBlock n).length c3] W fun e w' => e = .returned (shaOf (nodeBlock n)).val ∧ Mod [] W w') := Lib.hid (fun W hW => shaOf_any g3 _ _ W (RS.mod hb3 hW (by simp)) (by omega))
      have hbi : ((nodeBlock n).length : Int) ≤ 1048576 := by omega
      clear hb3 hret hsz HO4 HR HCKE
      generalize shaOf (nodeBlock n) = sh at *
      generalize nodeBlock n = B at *
      have hz1 := entryL_one sh n.author n.clock
      go_wp2_with fail
      refine (HDEC.out w4 (Mod.refl _ _)).mono ?_
      rintro e' w5 ⟨pv2, ov2, rfl, hown1, hown2, _, _, hm5⟩
      obtain ⟨pA, pc, rfl, _, _⟩ := hown1.val
      obtain ⟨oA, oc, rfl, _, _⟩ := hown2.val
      obtain ⟨gp2, hgp2, _⟩ := hown1.hs
      obtain ⟨go2, hgo2, _⟩ := hown2.os
      have HN2 : Hid (NodR w5 n gp2 go2 _ _) := Lib.hid ⟨hgp2, hgo2⟩
      have HM45 := Lib.hid hm5
      clear hown1 hown2 hgp2 hgo2 hm5 HDEC
      go_wp2_with (first | ((with_reducible refine wpList_store_node (au := n.author) (cl := n.clock) (pv := .slice pA n.parents.length pc) (ov := .slice oA n.ops.length oc) _ _ rfl ?hgd ?hx ?hy (Blk.new _ _ _) ?hold ?hp ?hv ?_); (case hgd => exact rfl); (case hx => exact rfl); (case hy => exact rfl); (case hold => exact rfl); (case hp => exact rfl); (case hv => exact rfl); intro w6 hb6 hm6; have HM56 : Hid (Mod [] w5 w6) := Lib.hid (((Mod.refl [] w5).alloc _).then hm6 (by simp)); have HV6 := Lib.hid hb6; clear hb6 hm6))
      refine (HENT.out w6 (HM45.out.trans HM56.out)).mono ?_
      rintro e' w7 ⟨pv3, ov3, rfl, hown1, hown2, hm7⟩
      obtain ⟨pA3, pc3, rfl, _, _⟩ := hown1.val
      obtain ⟨oA3, oc3, rfl, _, _⟩ := hown2.val
      obtain ⟨gp3, hgp3, _⟩ := hown1.hs
      obtain ⟨go3, hgo3, _⟩ := hown2.os
      have HN3 : Hid (NodR w7 n gp3 go3 _ _) := Lib.hid ⟨hgp3, hgo3⟩
      have HM67 := Lib.hid hm7
      have hz2 := hz1 (.slice pA3 n.parents.length pc3) (.slice oA3 n.ops.length oc3) rfl rfl
      clear hown1 hown2 hgp3 hgo3 hm7 HENT hz1
      go_wp2_with (first | ((with_reducible refine wpList_alloc zeroEntry_run rfl ?hgd ?_); (case hgd => exact rfl); intro q8 w8 hb8 hm8 hq8 hl8; have HB8 := Lib.hid hb8; have HM78 := Lib.hid hm8; clear hb8 hm8) | ((with_reducible refine wpList_store_blk rtEntry (cells := entryL sh n.author n.clock (.slice pA3 n.parents.length pc3) (.slice oA3 n.ops.length oc3)) _ _ rfl ?hgd ?hx ?hy HB8.out (entryL_length _ _ _ _ _) ?hold hz2 ?_); (case hgd => exact rfl); (case hx => exact rfl); (case hy => exact rfl); (case hold => exact rfl); intro w9 hb9 hm9; have HM79 : Hid (Mod [] w7 w9) := Lib.hid (HM78.out.then hm9 (by simp; omega)); have HE9 := Lib.hid hb9; clear hb9 hm9))
      have h49 := ((HM45.out.trans HM56.out).trans HM67.out).trans HM79.out
      have HM49 := Lib.hid h49
      have HM9 := Lib.hid (HM4.out.trans h49)
      have HV19 := Lib.hid (HV4.out.mod h49 (by simp))
      have HV69 := Lib.hid (HV6.out.mod (HM67.out.trans HM79.out) (by simp))
      have HN29 := Lib.hid (HN2.out.mod0 ((HM56.out.trans HM67.out).trans HM79.out))
      have HN39 := Lib.hid (HN3.out.mod0 HM79.out)
      have HN19 := Lib.hid (HN.out.mod0 HM9.out)
      have heq : nodeEq n n = true := nodeEq_true rfl rfl rfl rfl
      obtain ⟨q6, hq6⟩ : ∃ q, w5.heap.size = q := ⟨_, rfl⟩
      rw [hq6] at HV69 ⊢
      clear h49 hq6 HV4 HV6 HN2 HN3 HB8 HM78 HM79 HM67 HM56 HM45
      have hw0 : Mod [] w9 w9.drew := (Mod.refl _ w9).drew
      have HS1 : Hid (∀ W, Mod [] w9 W → Calls Try.prog 13 #[nodeV n.author n.clock (.slice pA n.parents.length pc) (.slice oA n.ops.length oc), nodeV n.author n.clock pv ov] W fun e w' => e = .returned (.bool true) ∧ Mod [] W w') := Lib.hid (fun W hW => by
        have h := refNodeSame_any n n gp2 go2 gp go _ _ _ _ W (HN29.out.mod0 hW) (HN19.out.mod0 hW); rw [heq] at h; exact h)
      have HS2 : Hid (∀ W, Mod [] w9 W → Calls Try.prog 13 #[nodeV n.author n.clock (.slice pA3 n.parents.length pc3) (.slice oA3 n.ops.length oc3), nodeV n.author n.clock pv ov] W fun e w' => e = .returned (.bool true) ∧ Mod [] W w') := Lib.hid (fun W hW => by
        have h := refNodeSame_any n n gp3 go3 gp go _ _ _ _ W (HN39.out.mod0 hW) (HN19.out.mod0 hW); rw [heq] at h; exact h)
      have HS3 : Hid (∀ W, Mod [] w9 W → Calls Try.prog 20 #[nodeV n.author n.clock (.slice pA n.parents.length pc) (.slice oA n.ops.length oc), nodeV n.author n.clock pv ov] W fun e w' => e = .returned (.bool true) ∧ Mod [] W w') := Lib.hid (fun W hW => by
        have h := nodeSame_any n n gp2 go2 gp go _ _ _ _ W (HN29.out.mod0 hW) (HN19.out.mod0 hW); rw [heq] at h; exact h)
      have HL1 : Hid (∀ W, Mod [] w9 W → CellsAt W q1 0 (nodeL n.author n.clock pv ov)) := Lib.hid (fun W hW => CellsAt.of_blk (HV19.out.mod hW (by simp)))
      have HL6 : Hid (∀ W, Mod [] w9 W → CellsAt W q6 0 (nodeL n.author n.clock (.slice pA n.parents.length pc) (.slice oA n.ops.length oc))) := Lib.hid (fun W hW => CellsAt.of_blk (HV69.out.mod hW (by simp)))
      have HE : Hid (∀ W, Mod [] w9 W → EntB W q8 sh n.author n.clock (.slice pA3 n.parents.length pc3) (.slice oA3 n.ops.length oc3)) := Lib.hid (fun W hW => Blk.mod HE9.out hW (by simp))
      have HF := Lib.hid hw0
      refine wp_regionE (Mod []) (by kernel_rfl) ?_
      simp only [List.size_toArray, List.length_cons, List.length_nil, Nat.zero_add, Nat.reduceAdd]
      refine wpAnyE_takeL (preMod _) 0 (v := ?_) rfl (by kernel_rfl) (by kernel_rfl) (by kernel_rfl) (fun _ _ _ h => h) (Or.inl ⟨by rfl, ?_⟩) ?_
      rotate_left; (intro W hW; (try dsimp only at hW); go_simp; try with_reducible rfl)
      (try simp only [Act.put, List.setIfInBounds_toArray, List.set_cons_zero, List.set_cons_succ])
      refine wpAnyE_takeL (preMod _) 1 (v := ?_) rfl (by kernel_rfl) (by kernel_rfl) (by kernel_rfl) (fun _ _ _ h => h) (Or.inl ⟨by rfl, ?_⟩) ?_
      rotate_left; (intro W hW; (try dsimp only at hW); go_simp; try with_reducible rfl)
      (try simp only [Act.put, List.setIfInBounds_toArray, List.set_cons_zero, List.set_cons_succ])
      refine wpAnyE_takeL (preMod _) 2 (v := ?_) rfl (by kernel_rfl) (by kernel_rfl) (by kernel_rfl) (fun _ _ _ h => h) (Or.inl ⟨by rfl, ?_⟩) ?_
      rotate_left; (intro W hW; (try dsimp only at hW); go_simp; try with_reducible rfl)
      (try simp only [Act.put, List.setIfInBounds_toArray, List.set_cons_zero, List.set_cons_succ])
      refine wpAnyE_takeL (preMod _) 3 (v := ?_) rfl (by kernel_rfl) (by kernel_rfl) (by kernel_rfl) (fun _ _ _ h => h) (Or.inl ⟨by rfl, ?_⟩) ?_
      rotate_left; (intro W hW; (try dsimp only at hW); go_simp; try with_reducible rfl)
      (try simp only [Act.put, List.setIfInBounds_toArray, List.set_cons_zero, List.set_cons_succ])
      refine wpAnyE_takeL (preMod _) 4 (v := ?_) rfl (by kernel_rfl) (by kernel_rfl) (by kernel_rfl) (fun _ _ _ h => h) (Or.inl ⟨by rfl, ?_⟩) ?_
      rotate_left; (intro W hW; (try dsimp only at hW); go_simp; try with_reducible rfl)
      (try simp only [Act.put, List.setIfInBounds_toArray, List.set_cons_zero, List.set_cons_succ])
      refine wpAnyE_takeL (preMod _) 5 (v := ?_) rfl (by kernel_rfl) (by kernel_rfl) (by kernel_rfl) (fun _ _ _ h => h) (Or.inl ⟨by rfl, ?_⟩) ?_
      rotate_left; (intro W hW; (try dsimp only at hW); go_simp; try with_reducible rfl)
      (try simp only [Act.put, List.setIfInBounds_toArray, List.set_cons_zero, List.set_cons_succ])
      refine wpAnyE_takeL (preMod _) 6 (v := ?_) rfl (by kernel_rfl) (by kernel_rfl) (by kernel_rfl) (fun _ _ _ h => h) (Or.inl ⟨by rfl, ?_⟩) ?_
      rotate_left; (intro W hW; (try dsimp only at hW); go_simp; try with_reducible rfl)
      (try simp only [Act.put, List.setIfInBounds_toArray, List.set_cons_zero, List.set_cons_succ])
      refine wpAnyE_takeL (preMod _) 7 (v := ?_) rfl (by kernel_rfl) (by kernel_rfl) (by kernel_rfl) (fun _ _ _ h => h) (Or.inl ⟨by rfl, ?_⟩) ?_
      rotate_left; (intro W hW; (try dsimp only at hW); go_simp; try with_reducible rfl)
      (try simp only [Act.put, List.setIfInBounds_toArray, List.set_cons_zero, List.set_cons_succ])
      refine wpAnyE_takeL (preMod _) 8 (v := ?_) rfl (by kernel_rfl) (by kernel_rfl) (by kernel_rfl) (fun _ _ _ h => h) (Or.inl ⟨by rfl, ?_⟩) ?_
      rotate_left; (intro W hW; (try dsimp only at hW); go_simp; try with_reducible rfl)
      (try simp only [Act.put, List.setIfInBounds_toArray, List.set_cons_zero, List.set_cons_succ])
      refine wpAnyE_takeL (preMod _) 9 (v := ?_) rfl (by kernel_rfl) (by kernel_rfl) (by kernel_rfl) (fun _ _ _ h => h) (Or.inl ⟨by rfl, ?_⟩) ?_
      rotate_left; (intro W hW; (try dsimp only at hW); go_simp; try with_reducible rfl)
      (try simp only [Act.put, List.setIfInBounds_toArray, List.set_cons_zero, List.set_cons_succ])
      refine wpAnyE_takeL (preMod _) 10 (v := ?_) rfl (by kernel_rfl) (by kernel_rfl) (by kernel_rfl) (fun _ _ _ h => h) (Or.inl ⟨by rfl, ?_⟩) ?_
      rotate_left; (intro W hW; (try dsimp only at hW); go_simp; try with_reducible rfl)
      (try simp only [Act.put, List.setIfInBounds_toArray, List.set_cons_zero, List.set_cons_succ])
      refine wpAnyE_takeL (preMod _) 11 (v := ?_) rfl (by kernel_rfl) (by kernel_rfl) (by kernel_rfl) (fun _ _ _ h => h) (Or.inl ⟨by rfl, ?_⟩) ?_
      rotate_left; (intro W hW; (try dsimp only at hW); refine (run_load_cells rtNode (.tmp 6) (by rfl) (by rfl) rfl (HL6.out W (HF.out.trans hW))).trans ?_; try with_reducible rfl)
      (try simp only [Act.put, List.setIfInBounds_toArray, List.set_cons_zero, List.set_cons_succ])
      refine wpAnyE_takeL (preMod _) 12 (v := ?_) rfl (by kernel_rfl) (by kernel_rfl) (by kernel_rfl) (fun _ _ _ h => h) (Or.inl ⟨by rfl, ?_⟩) ?_
      rotate_left; (intro W hW; (try dsimp only at hW); refine (run_load_cells rtNode (.tmp 1) (by rfl) (by rfl) rfl (HL1.out W (HF.out.trans hW))).trans ?_; try with_reducible rfl)
      (try simp only [Act.put, List.setIfInBounds_toArray, List.set_cons_zero, List.set_cons_succ])
      refine wpAnyE_ready (rs := [13]) (by kernel_rfl) (by simp) ?_
      refine AllReadyE.consL rfl (fun K hK => ?_) AllReadyE.nil
      rw [if_pos (by rfl)]
      go_simp
      go_at_call 13
      refine (HS1.out _ HF.out).mono ?_
      rintro e' w11 ⟨rfl, hm11⟩
      have hmE := hm11
      have HFnew := Lib.hid (HF.out.trans hm11); clear HF; have HF := HFnew; clear HFnew
      go_wp2_with fail
      refine hK.out _ _ (by first | exact hmE | exact Mod.refl _ _ | exact (Mod.refl _ _).alloc _) ?_
      clear hK
      (try simp only [Act.put, List.setIfInBounds_toArray, List.set_cons_zero, List.set_cons_succ])
      refine wpAnyE_takeL (preMod _) 14 (v := ?_) rfl (by kernel_rfl) (by kernel_rfl) (by kernel_rfl) (fun _ _ _ h => h) (Or.inl ⟨by rfl, ?_⟩) ?_
      rotate_left; (intro W hW; (try dsimp only at hW); go_simp; try with_reducible rfl)
      (try simp only [Act.put, List.setIfInBounds_toArray, List.set_cons_zero, List.set_cons_succ])
      refine wpAnyE_takeL (preMod _) 15 (v := ?_) rfl (by kernel_rfl) (by kernel_rfl) (by kernel_rfl) (fun _ _ _ h => h) (Or.inl ⟨by rfl, ?_⟩) ?_
      rotate_left; (intro W hW; (try dsimp only at hW); go_simp; try with_reducible rfl)
      (try simp only [Act.put, List.setIfInBounds_toArray, List.set_cons_zero, List.set_cons_succ])
      refine wpAnyE_takeL (preMod _) 16 (v := ?_) rfl (by kernel_rfl) (by kernel_rfl) (by kernel_rfl) (fun _ _ _ h => h) (Or.inl ⟨by rfl, ?_⟩) ?_
      rotate_left; (intro W hW; (try dsimp only at hW); go_simp; try with_reducible rfl)
      (try simp only [Act.put, List.setIfInBounds_toArray, List.set_cons_zero, List.set_cons_succ])
      refine wpAnyE_takeL (preMod _) 17 (v := ?_) rfl (by kernel_rfl) (by kernel_rfl) (by kernel_rfl) (fun _ _ _ h => h) (Or.inl ⟨by rfl, ?_⟩) ?_
      rotate_left; (intro W hW; (try dsimp only at hW); refine (run_load_cells rtNode (.tmp 73) (by rfl) (by rfl) rfl ((HE.out W (HF.out.trans hW)).parts.2.2.1)).trans ?_; try with_reducible rfl)
      (try simp only [Act.put, List.setIfInBounds_toArray, List.set_cons_zero, List.set_cons_succ])
      refine wpAnyE_takeL (preMod _) 18 (v := ?_) rfl (by kernel_rfl) (by kernel_rfl) (by kernel_rfl) (fun _ _ _ h => h) (Or.inl ⟨by rfl, ?_⟩) ?_
      rotate_left; (intro W hW; (try dsimp only at hW); refine (run_load_cells rtNode (.tmp 1) (by rfl) (by rfl) rfl (HL1.out W (HF.out.trans hW))).trans ?_; try with_reducible rfl)
      (try simp only [Act.put, List.setIfInBounds_toArray, List.set_cons_zero, List.set_cons_succ])
      refine wpAnyE_ready (rs := [19]) (by kernel_rfl) (by simp) ?_
      refine AllReadyE.consL rfl (fun K hK => ?_) AllReadyE.nil
      rw [if_pos (by rfl)]
      go_simp
      go_at_call 13
      refine (HS2.out _ HF.out).mono ?_
      rintro e' w12 ⟨rfl, hm12⟩
      have hmE := hm12
      have HFnew := Lib.hid (HF.out.trans hm12); clear HF; have HF := HFnew; clear HFnew
      go_wp2_with fail
      refine hK.out _ _ (by first | exact hmE | exact Mod.refl _ _ | exact (Mod.refl _ _).alloc _) ?_
      clear hK
      (try simp only [Act.put, List.setIfInBounds_toArray, List.set_cons_zero, List.set_cons_succ])
      refine wpAnyE_takeL (preMod _) 20 (v := ?_) rfl (by kernel_rfl) (by kernel_rfl) (by kernel_rfl) (fun _ _ _ h => h) (Or.inl ⟨by rfl, ?_⟩) ?_
      rotate_left; (intro W hW; (try dsimp only at hW); go_simp; try with_reducible rfl)
      (try simp only [Act.put, List.setIfInBounds_toArray, List.set_cons_zero, List.set_cons_succ])
      refine wpAnyE_takeL (preMod _) 21 (v := ?_) rfl (by kernel_rfl) (by kernel_rfl) (by kernel_rfl) (fun _ _ _ h => h) (Or.inl ⟨by rfl, ?_⟩) ?_
      rotate_left; (intro W hW; (try dsimp only at hW); go_simp; try with_reducible rfl)
      (try simp only [Act.put, List.setIfInBounds_toArray, List.set_cons_zero, List.set_cons_succ])
      refine wpAnyE_takeL (preMod _) 22 (v := ?_) rfl (by kernel_rfl) (by kernel_rfl) (by kernel_rfl) (fun _ _ _ h => h) (Or.inl ⟨by rfl, ?_⟩) ?_
      rotate_left; (intro W hW; (try dsimp only at hW); go_simp; try with_reducible rfl)
      (try simp only [Act.put, List.setIfInBounds_toArray, List.set_cons_zero, List.set_cons_succ])
      refine wpAnyE_takeL (preMod _) 23 (v := ?_) rfl (by kernel_rfl) (by kernel_rfl) (by kernel_rfl) (fun _ _ _ h => h) (Or.inl ⟨by rfl, ?_⟩) ?_
      rotate_left; (intro W hW; (try dsimp only at hW); refine Eq.trans (b := Result.ok (.value sh.val) W) (run_load_cells rtHash (.tmp 79) (by rfl) (by rfl) (GHash.cells_length _) ((HE.out W (HF.out.trans hW)).parts.2.1)) ?_; try with_reducible rfl)
      (try simp only [Act.put, List.setIfInBounds_toArray, List.set_cons_zero, List.set_cons_succ])
      refine wpAnyE_takeL (preMod _) 24 (v := ?_) rfl (by kernel_rfl) (by kernel_rfl) (by kernel_rfl) (fun _ _ _ h => h) (Or.inl ⟨by rfl, ?_⟩) ?_
      rotate_left; (intro W hW; (try dsimp only at hW); go_simp; try with_reducible rfl)
      (try simp only [Act.put, List.setIfInBounds_toArray, List.set_cons_zero, List.set_cons_succ])
      refine wpAnyE_ready (rs := [25]) (by kernel_rfl) (by simp) ?_
      refine AllReadyE.consL rfl (fun K hK => ?_) AllReadyE.nil
      rw [if_pos (by rfl)]
      go_simp
      go_at_call 24
      refine (HSHA.out _ (HM49.out.trans HF.out)).mono ?_
      rintro e' w13 ⟨rfl, hm13⟩
      have hmE := hm13
      have HFnew := Lib.hid (HF.out.trans hm13); clear HF; have HF := HFnew; clear HFnew
      go_wp2_with fail
      refine hK.out _ _ (by first | exact hmE | exact Mod.refl _ _ | exact (Mod.refl _ _).alloc _) ?_
      clear hK
      (try simp only [Act.put, List.setIfInBounds_toArray, List.set_cons_zero, List.set_cons_succ])
      refine wpAnyE_takeL (preMod _) 26 (v := ?_) rfl (by kernel_rfl) (by kernel_rfl) (by kernel_rfl) (fun _ _ _ h => h) (Or.inl ⟨by rfl, ?_⟩) ?_
      rotate_left; (intro W hW; (try dsimp only at hW); go_simp; try with_reducible rfl)
      (try simp only [Act.put, List.setIfInBounds_toArray, List.set_cons_zero, List.set_cons_succ])
      refine wpAnyE_takeL (preMod _) 27 (v := ?_) rfl (by kernel_rfl) (by kernel_rfl) (by kernel_rfl) (fun _ _ _ h => h) (Or.inl ⟨by rfl, ?_⟩) ?_
      rotate_left; (intro W hW; (try dsimp only at hW); go_simp; try with_reducible rfl)
      (try simp only [Act.put, List.setIfInBounds_toArray, List.set_cons_zero, List.set_cons_succ])
      refine wpAnyE_takeL (preMod _) 28 (v := ?_) rfl (by kernel_rfl) (by kernel_rfl) (by kernel_rfl) (fun _ _ _ h => h) (Or.inl ⟨by rfl, ?_⟩) ?_
      rotate_left; (intro W hW; (try dsimp only at hW); go_simp; try with_reducible rfl)
      (try simp only [Act.put, List.setIfInBounds_toArray, List.set_cons_zero, List.set_cons_succ])
      refine wpAnyE_takeL (preMod _) 29 (v := ?_) rfl (by kernel_rfl) (by kernel_rfl) (by kernel_rfl) (fun _ _ _ h => h) (Or.inl ⟨by rfl, ?_⟩) ?_
      rotate_left; (intro W hW; (try dsimp only at hW); refine (run_load_cells rtNode (.tmp 1) (by rfl) (by rfl) rfl (HL1.out W (HF.out.trans hW))).trans ?_; try with_reducible rfl)
      (try simp only [Act.put, List.setIfInBounds_toArray, List.set_cons_zero, List.set_cons_succ])
      refine wpAnyE_takeL (preMod _) 31 (v := ?_) rfl (by kernel_rfl) (by kernel_rfl) (by kernel_rfl) (fun _ _ _ h => h) (Or.inl ⟨by rfl, ?_⟩) ?_
      rotate_left; (intro W hW; (try dsimp only at hW); go_simp; try with_reducible rfl)
      (try simp only [Act.put, List.setIfInBounds_toArray, List.set_cons_zero, List.set_cons_succ])
      refine wpAnyE_takeL (preMod _) 32 (v := ?_) rfl (by kernel_rfl) (by kernel_rfl) (by kernel_rfl) (fun _ _ _ h => h) (Or.inl ⟨by rfl, ?_⟩) ?_
      rotate_left; (intro W hW; (try dsimp only at hW); go_simp; try with_reducible rfl)
      (try simp only [Act.put, List.setIfInBounds_toArray, List.set_cons_zero, List.set_cons_succ])
      refine wpAnyE_ready (rs := [30]) (by kernel_rfl) (by simp) ?_
      refine AllReadyE.consL rfl (fun K hK => ?_) AllReadyE.nil
      rw [if_pos (by rfl)]
      go_simp
      go_at_call 17
      refine (HSZ.out _ (HM9.out.trans HF.out)).mono ?_
      rintro e' w14 ⟨rfl, hm14⟩
      have hmE := hm14
      have HFnew := Lib.hid (HF.out.trans hm14); clear HF; have HF := HFnew; clear HFnew
      go_wp2_with fail
      refine hK.out _ _ (by first | exact hmE | exact Mod.refl _ _ | exact (Mod.refl _ _).alloc _) ?_
      clear hK
      (try simp only [Act.put, List.setIfInBounds_toArray, List.set_cons_zero, List.set_cons_succ])
      refine wpAnyE_takeL (preMod _) 33 (v := ?_) rfl (by kernel_rfl) (by kernel_rfl) (by kernel_rfl) (fun _ _ _ h => h) (Or.inl ⟨by rfl, ?_⟩) ?_
      rotate_left; (intro W hW; (try dsimp only at hW); go_simp; try with_reducible rfl)
      (try simp only [Act.put, List.setIfInBounds_toArray, List.set_cons_zero, List.set_cons_succ])
      refine wpAnyE_takeL (preMod _) 34 (v := ?_) rfl (by kernel_rfl) (by kernel_rfl) (by kernel_rfl) (fun _ _ _ h => h) (Or.inl ⟨by rfl, ?_⟩) ?_
      rotate_left; (intro W hW; (try dsimp only at hW); go_simp; try with_reducible rfl)
      (try simp only [Act.put, List.setIfInBounds_toArray, List.set_cons_zero, List.set_cons_succ])
      refine wpAnyE_takeL (preMod _) 35 (v := ?_) rfl (by kernel_rfl) (by kernel_rfl) (by kernel_rfl) (fun _ _ _ h => h) (Or.inl ⟨by rfl, ?_⟩) ?_
      rotate_left; (intro W hW; (try dsimp only at hW); go_simp; try with_reducible rfl)
      (try simp only [Act.put, List.setIfInBounds_toArray, List.set_cons_zero, List.set_cons_succ])
      refine wpAnyE_takeL (preMod _) 36 (v := ?_) rfl (by kernel_rfl) (by kernel_rfl) (by kernel_rfl) (fun _ _ _ h => h) (Or.inl ⟨by rfl, ?_⟩) ?_
      rotate_left; (intro W hW; (try dsimp only at hW); go_simp; try with_reducible rfl)
      (try simp only [Act.put, List.setIfInBounds_toArray, List.set_cons_zero, List.set_cons_succ])
      refine wpAnyE_takeL (preMod _) 37 (v := ?_) rfl (by kernel_rfl) (by kernel_rfl) (by kernel_rfl) (fun _ _ _ h => h) (Or.inl ⟨by rfl, ?_⟩) ?_
      rotate_left; (intro W hW; (try dsimp only at hW); go_simp; try with_reducible rfl)
      (try simp only [Act.put, List.setIfInBounds_toArray, List.set_cons_zero, List.set_cons_succ])
      refine wpAnyE_takeL (preMod _) 38 (v := ?_) rfl (by kernel_rfl) (by kernel_rfl) (by kernel_rfl) (fun _ _ _ h => h) (Or.inl ⟨by rfl, ?_⟩) ?_
      rotate_left; (intro W hW; (try dsimp only at hW); go_simp; try with_reducible rfl)
      (try simp only [Act.put, List.setIfInBounds_toArray, List.set_cons_zero, List.set_cons_succ])
      refine wpAnyE_takeL (preMod _) 39 (v := ?_) rfl (by kernel_rfl) (by kernel_rfl) (by kernel_rfl) (fun _ _ _ h => h) (Or.inl ⟨by rfl, ?_⟩) ?_
      rotate_left; (intro W hW; (try dsimp only at hW); go_simp; try with_reducible rfl)
      (try simp only [Act.put, List.setIfInBounds_toArray, List.set_cons_zero, List.set_cons_succ])
      refine wpAnyE_takeL (preMod _) 40 (v := ?_) rfl (by kernel_rfl) (by kernel_rfl) (by kernel_rfl) (fun _ _ _ h => h) (Or.inl ⟨by rfl, ?_⟩) ?_
      rotate_left; (intro W hW; (try dsimp only at hW); go_simp; try with_reducible rfl)
      (try simp only [Act.put, List.setIfInBounds_toArray, List.set_cons_zero, List.set_cons_succ])
      refine wpAnyE_takeL (preMod _) 41 (v := ?_) rfl (by kernel_rfl) (by kernel_rfl) (by kernel_rfl) (fun _ _ _ h => h) (Or.inl ⟨by rfl, ?_⟩) ?_
      rotate_left; (intro W hW; (try dsimp only at hW); refine (run_load_cells rtNode (.tmp 6) (by rfl) (by rfl) rfl (HL6.out W (HF.out.trans hW))).trans ?_; try with_reducible rfl)
      (try simp only [Act.put, List.setIfInBounds_toArray, List.set_cons_zero, List.set_cons_succ])
      refine wpAnyE_takeL (preMod _) 42 (v := ?_) rfl (by kernel_rfl) (by kernel_rfl) (by kernel_rfl) (fun _ _ _ h => h) (Or.inl ⟨by rfl, ?_⟩) ?_
      rotate_left; (intro W hW; (try dsimp only at hW); refine (run_load_cells rtNode (.tmp 1) (by rfl) (by rfl) rfl (HL1.out W (HF.out.trans hW))).trans ?_; try with_reducible rfl)
      (try simp only [Act.put, List.setIfInBounds_toArray, List.set_cons_zero, List.set_cons_succ])
      refine wpAnyE_ready (rs := [43]) (by kernel_rfl) (by simp) ?_
      refine AllReadyE.consL rfl (fun K hK => ?_) AllReadyE.nil
      rw [if_pos (by rfl)]
      go_simp
      go_at_call 20
      refine (HS3.out _ HF.out).mono ?_
      rintro e' w15 ⟨rfl, hm15⟩
      have hmE := hm15
      have HFnew := Lib.hid (HF.out.trans hm15); clear HF; have HF := HFnew; clear HFnew
      go_wp2_with fail
      refine hK.out _ _ (by first | exact hmE | exact Mod.refl _ _ | exact (Mod.refl _ _).alloc _) ?_
      clear hK
      (try simp only [Act.put, List.setIfInBounds_toArray, List.set_cons_zero, List.set_cons_succ])
      refine wpAnyE_takeL (preMod _) 44 (v := ?_) rfl (by kernel_rfl) (by kernel_rfl) (by kernel_rfl) (fun _ _ _ h => h) (Or.inl ⟨by rfl, ?_⟩) ?_
      rotate_left; (intro W hW; (try dsimp only at hW); go_simp; try with_reducible rfl)
      (try simp only [Act.put, List.setIfInBounds_toArray, List.set_cons_zero, List.set_cons_succ])
      refine wpAnyE_takeL (preMod _) 45 (v := ?_) rfl (by kernel_rfl) (by kernel_rfl) (by kernel_rfl) (fun _ _ _ h => h) (Or.inl ⟨by rfl, ?_⟩) ?_
      rotate_left; (intro W hW; (try dsimp only at hW); go_simp; try with_reducible rfl)
      (try simp only [Act.put, List.setIfInBounds_toArray, List.set_cons_zero, List.set_cons_succ])
      refine wpAnyE_done (by kernel_rfl) ?_ _
      go_wp2_with fail
      go_ret
      exact ⟨rfl, HM9.out.trans HF.out⟩
  · have hr4 : r = ([], ck) := by rw [← HR.out]; unfold encOf; rw [if_neg (by rw [HCKE.out]; exact h0), HCKE.out]
    subst hr4
    have hsz : sizeOf_ n = 0 := by unfold sizeOf_; rw [if_neg (by rw [HCKE.out]; exact h0)]
    rw [hsz] at HSZ
    have hk0 : ((ck : Int) == 0) = false := by simp; omega
    have hk1 : ¬ ((ck : Int) = 0) := by omega
    go_wp2_with (first | ((with_reducible refine wpList_load_node _ rfl ?hgd HC.out ?hx ?_); (case hgd => exact rfl); (case hx => exact rfl)))
    refine (HSZ.out w4 HM4.out).mono ?_
    rintro e' w5 ⟨rfl, hm5⟩
    go_wp2_with fail
    go_ret
    exact ⟨rfl, HM4.out.trans hm5⟩
end Go.Proofs.Ytlpjeckhejbkkaa
end

section
set_option linter.unusedVariables false
set_option linter.unusedSimpArgs false
set_option maxRecDepth 20000
set_option maxHeartbeats 1600000
namespace Go.Proofs.Ytlpjeckhejbkkaa
open Go.RowKit

theorem sameEntry_nil (w : World) : Calls Try.prog 23 #[entryV GHash.zero 0 0 nilS nilS, entryV GHash.zero 0 0 nilS nilS] w fun e w' => e = .returned (.bool true) ∧ Mod [] w w' := by
  go_enter Try.func23, Try.ntmps23
  go_upto_region 1 with (first | ((with_reducible refine wpList_box_entry (.tmp 0) rfl ?hgd (h := GHash.zero) (au := 0) (cl := 0) (pv := nilS) (ov := nilS) ?hx ?_); (case hgd => exact rfl); (case hx => exact rfl); intro q1 w1 hv1 hm1 hq1 hl1; have HV1 := Lib.hid hv1; have HM1 := Lib.hid hm1; clear hv1 hm1) | ((with_reducible refine wpList_box_entry (.tmp 1) rfl ?hgd (h := GHash.zero) (au := 0) (cl := 0) (pv := nilS) (ov := nilS) ?hx ?_); (case hgd => exact rfl); (case hx => exact rfl); intro q2 w2 hv2 hm2 hq2 hl2; have HV2 := Lib.hid hv2; have HM2 := Lib.hid hm2; have HV12 := Lib.hid (HV1.out.mod hm2 (by simp)); clear hv2 hm2))
  have HH1 := Lib.hid HV12.out.parts.2.1
  have HH2 := Lib.hid HV2.out.parts.2.1
  have HN1 := Lib.hid HV12.out.parts.2.2.1
  have HN2 := Lib.hid HV2.out.parts.2.2.1
  have HM := Lib.hid (HM1.out.trans HM2.out)
  have heq : (GHash.zero == GHash.zero) = true := by decide
  clear HM1 HM2 HV1 HV2 HV12
  go_wp2_with (first | ((with_reducible refine wpList_load_hash _ rfl ?hgd (b := q1) (k := 0) HH1.out ?hx ?_); (case hgd => exact rfl); (case hx => exact rfl)) | ((with_reducible refine wpList_load_hash _ rfl ?hgd (b := q2) (k := 0) HH2.out ?hx ?_); (case hgd => exact rfl); (case hx => exact rfl)) | ((with_reducible refine wpList_load_node _ rfl ?hgd (b := q1) HN1.out ?hx ?_); (case hgd => exact rfl); (case hx => exact rfl)) | ((with_reducible refine wpList_load_node _ rfl ?hgd (b := q2) HN2.out ?hx ?_); (case hgd => exact rfl); (case hx => exact rfl)))
  refine (nodeSame_nil _).mono ?_
  rintro e' w9 ⟨rfl, hm9⟩
  go_wp2_with fail
  go_ret
  exact ⟨rfl, HM.out.trans hm9⟩
theorem nodeOneForm_any (xs : Bytes) (g : Nat) (sv : Value) (w : World) (hs : BS w g sv xs) :
    Calls Try.prog 7 #[sv] w fun e w' => e = .returned (.bool true) ∧ Mod [] w w' := by
  obtain ⟨A, cap, rfl, hc1, hc2⟩ := hs.val
  unfold maxLen at hc2
  have HS := Lib.hid hs
  have HDEC : Hid (∀ W, Mod [] w W → Calls Try.prog 11 #[.slice A xs.length cap] W (DecP W (rdNode xs))) := Lib.hid (fun W hW => decode_any xs g _ W (RS.mod HS.out hW (by simp)))
  have HENT : Hid (∀ W, Mod [] w W → Calls Try.prog 22 #[.slice A xs.length cap] W (EntP W (shaOf xs) (rdNode xs))) := Lib.hid (fun W hW => entry_any xs g _ W (RS.mod HS.out hW (by simp)))
  have HBAD : Hid (∀ y a, rdNode xs = .bad y a → a ≤ xs.length ∧ 0 < y) := Lib.hid (fun y a h => node_bad (h := h))
  have HONE : Hid (∀ n p, rdNode xs = .ok n p → encOf n = (xs, 0) ∧ sizeOf_ n = xs.length ∧ checkNode n = 0 ∧ (∀ o ∈ n.ops, o.nums) ∧ xs.length ≤ 1048576) := Lib.hid (fun n p h => by
    obtain ⟨h1, _, h3, h4, h5⟩ := node_oneform h
    refine ⟨?_, ?_, h3, h4, h5⟩
    · unfold encOf; rw [if_pos h3, h1, if_neg (by omega)]
    · unfold sizeOf_; rw [if_pos h3, h1])
  have HSHA : Hid (∀ W, Mod [] w W → xs.length ≤ 1048576 → Calls Try.prog 24 #[.slice A xs.length cap] W fun e w' => e = .returned (shaOf xs).val ∧ Mod [] W w') := Lib.hid (fun W hW hx => shaOf_any g _ xs W (RS.mod HS.out hW (by simp)) (by omega))
  clear hs
  generalize rdNode xs = res at *
  generalize shaOf xs = sh at *
  go_enter Try.func7, Try.ntmps7
  go_wp2_with fail
  refine (awake_any _).mono ?_
  rintro e' w1 ⟨rfl, hm1⟩
  have HM1 := Lib.hid hm1
  clear hm1
  go_wp2_with fail
  refine (HDEC.out w1 HM1.out).mono ?_
  intro e' w2 hdec
  have HENT2 : Hid (∀ W, Mod [] w1 W → Calls Try.prog 22 #[.slice A xs.length cap] W (EntP W sh res)) := Lib.hid (fun W hW => HENT.out W (HM1.out.trans hW))
  clear HDEC HENT
  cases res with
  | bad y a =>
    obtain ⟨b, rfl, hbad, hm2, _⟩ := hdec
    obtain ⟨hle, hy⟩ := HBAD.out y a rfl
    have HBD := Lib.hid hbad
    have HM12 := Lib.hid hm2
    clear hbad hm2 HBAD HONE HSHA
    unfold badV
    go_wp2_with (first | ((with_reducible refine wpList_store_node (au := 0) (cl := 0) (pv := .slice none 0 0) (ov := .slice none 0 0) _ _ rfl ?hgd ?hx ?hy (Blk.new _ _ _) ?hold ?hp ?hv ?_); (case hgd => exact rfl); (case hx => exact rfl); (case hy => exact rfl); (case hold => exact rfl); (case hp => exact rfl); (case hv => exact rfl); intro w3 hb3 hm3; have HM23 : Hid (Mod [] w2 w3) := Lib.hid (((Mod.refl [] w2).alloc _).then hm3 (by simp)); have HN3 := Lib.hid hb3; clear hb3 hm3))
    have HBD3 := Lib.hid (HBD.out.mod HM23.out (by simp))
    have HM13 := Lib.hid (HM12.out.trans HM23.out)
    refine (HENT2.out w3 HM13.out).mono ?_
    rintro e' w4 ⟨b2, rfl, hbad2, hm4⟩
    have HBD4 := Lib.hid (HBD3.out.mod hm4 (by simp))
    have HBE4 := Lib.hid hbad2
    have HN4 := Lib.hid (HN3.out.mod hm4 (by simp))
    have HM14 := Lib.hid (HM13.out.trans hm4)
    clear hbad2 hm4 HBD HM12 HBD3 HN3 HM13 HM23 HENT2
    unfold badV
    have hz1 := entryL_one GHash.zero 0 0 nilS nilS rfl rfl
    go_wp2_with (first | ((with_reducible refine wpList_alloc zeroEntry_run rfl ?hgd ?_); (case hgd => exact rfl); intro q5 w5 hb5 hm5 hq5 hl5; have HB5 := Lib.hid hb5; have HM45 := Lib.hid hm5; clear hb5 hm5) | ((with_reducible refine wpList_store_blk rtEntry (cells := entryL GHash.zero 0 0 nilS nilS) _ _ rfl ?hgd ?hx ?hy HB5.out (entryL_length _ _ _ _ _) ?hold hz1 ?_); (case hgd => exact rfl); (case hx => exact rfl); (case hy => exact rfl); (case hold => exact rfl); intro w6 hb6 hm6; have HM46 : Hid (Mod [] w4 w6) := Lib.hid (HM45.out.then hm6 (by simp; omega)); have HE6 := Lib.hid hb6; clear hb6 hm6))
    have HBD6 := Lib.hid (HBD4.out.mod HM46.out (by simp))
    have HBE6 := Lib.hid (HBE4.out.mod HM46.out (by simp))
    have HN6 := Lib.hid (HN4.out.mod HM46.out (by simp))
    have HM6 := Lib.hid ((HM1.out.trans HM14.out).trans HM46.out)
    obtain ⟨q3, hq3⟩ : ∃ q, w2.heap.size = q := ⟨_, rfl⟩
    rw [hq3] at HN6 ⊢
    clear hq3 HBD4 HBE4 HN4 HM14 HM45 HM46 HB5 hq5 hl5 HM1
    refine (told_bad w6 b y a HBD6.out (by omega)).mono ?_
    rintro e' w7 ⟨rfl, hm7⟩
    have HBE7 := Lib.hid (HBE6.out.mod hm7 (by simp))
    have HN7 := Lib.hid (HN6.out.mod hm7 (by simp))
    have HE7 := Lib.hid (Blk.mod HE6.out hm7 (by simp))
    have HM7 := Lib.hid (HM6.out.trans hm7)
    clear hm7 HBD6 HBE6 HN6 HE6 HM6
    unfold errV
    go_upto_region 7 with fail
    have hm8 : Mod [] w7 (w7.alloc (.cells #[.int .i64 (y : Int), .int .i64 (a : Int)] 36)) := (Mod.refl [] w7).alloc _
    have HT8 := Lib.hid (Blk.new w7 36 #[.int .i64 (y : Int), .int .i64 (a : Int)])
    have HBE8 := Lib.hid (HBE7.out.mod hm8 (by simp))
    have HN8 := Lib.hid (HN7.out.mod hm8 (by simp))
    have HE8 := Lib.hid (Blk.mod HE7.out hm8 (by simp))
    have HM8 := Lib.hid (HM7.out.trans hm8)
    obtain ⟨w8, hw8⟩ : ∃ w8, w7.alloc (.cells #[.int .i64 (y : Int), .int .i64 (a : Int)] 36) = w8 := ⟨_, rfl⟩
    obtain ⟨z, hz8⟩ : ∃ z, w7.heap.size = z := ⟨_, rfl⟩
    rw [hw8] at HT8 HBE8 HN8 HE8 HM8 ⊢
    rw [hz8] at HT8 ⊢
    clear hw8 hz8 hm8 HBE7 HN7 HE7 HM7
    go_wp2_with fail
    refine (told_bad w8 b2 y a HBE8.out (by omega)).mono ?_
    rintro e' w9 ⟨rfl, hm9⟩
    have HN9 := Lib.hid (HN8.out.mod hm9 (by simp))
    have HE9 := Lib.hid (Blk.mod HE8.out hm9 (by simp))
    have HM9 := Lib.hid (HM8.out.trans hm9)
    have HT9 := Lib.hid (HT8.out.mod hm9 (by simp))
    clear hm9 HBE8 HN8 HE8 HM8 HT8
    unfold errV
    go_upto_region 8 with fail
    have hm10 : Mod [] w9 (w9.alloc (.cells #[.int .i64 (y : Int), .int .i64 (a : Int)] 36)) := (Mod.refl [] w9).alloc _
    have HU10 := Lib.hid (Blk.new w9 36 #[.int .i64 (y : Int), .int .i64 (a : Int)])
    have HT10 := Lib.hid (HT9.out.mod hm10 (by simp))
    have HN10 := Lib.hid (HN9.out.mod hm10 (by simp))
    have HE10 : Hid (EntB _ q5 GHash.zero 0 0 nilS nilS) := Lib.hid (Blk.mod HE9.out hm10 (by simp))
    have HM10 := Lib.hid (HM9.out.trans hm10)
    obtain ⟨w10, hw10⟩ : ∃ w10, w9.alloc (.cells #[.int .i64 (y : Int), .int .i64 (a : Int)] 36) = w10 := ⟨_, rfl⟩
    obtain ⟨u, hu⟩ : ∃ u, w9.heap.size = u := ⟨_, rfl⟩
    rw [hw10] at HU10 HT10 HN10 HE10 HM10 ⊢
    rw [hu] at HU10 ⊢
    clear hw10 hu hm10 HN9 HE9 HM9 HT9
    have c0 := HT10.out.cell 0
    have c1 := HT10.out.cell 1
    have d0 := HU10.out.cell 0
    have d1 := HU10.out.cell 1
    have hai : (a : Int) ≤ (xs.length : Int) := by omega
    have hyy : ((y : Int) == (y : Int)) = true := by simp
    obtain ⟨_, _, _, _, HC⟩ := HN10.out.open_
    have HCE := Lib.hid HE10.out.parts.1
    go_wp2_with (first | ((with_reducible refine wpList_load_node _ rfl ?hgd HC.out ?hx ?_); (case hgd => exact rfl); (case hx => exact rfl)) | ((with_reducible refine wpList_load_entry _ rfl ?hgd HCE.out ?hx ?_); (case hgd => exact rfl); (case hx => exact rfl)))
    refine (nodeSame_nil _).mono ?_
    rintro e' w11 ⟨rfl, hm11⟩
    have HCE11 := Lib.hid (HE10.out.mod hm11 (by simp)).parts.1
    go_wp2_with (first | ((with_reducible refine wpList_load_entry _ rfl ?hgd HCE11.out ?hx ?_); (case hgd => exact rfl); (case hx => exact rfl)))
    refine (sameEntry_nil _).mono ?_
    rintro e' w12 ⟨rfl, hm12⟩
    go_wp2_with fail
    go_ret
    exact ⟨rfl, (HM10.out.trans hm11).trans hm12⟩
  | ok n pos =>
    obtain ⟨pv2, ov2, rfl, hown1, hown2, _, _, hm2⟩ := hdec
    obtain ⟨hen, hsz, hck, hnn, hlen⟩ := HONE.out n pos rfl
    have HLX := Lib.hid hlen
    obtain ⟨pA, pc, rfl, _, _⟩ := hown1.val
    obtain ⟨oA, oc, rfl, _, _⟩ := hown2.val
    obtain ⟨gp2, hgp2, _⟩ := hown1.hs
    obtain ⟨go2, hgo2, _⟩ := hown2.os
    have HN2 : Hid (NodR w2 n gp2 go2 _ _) := Lib.hid ⟨hgp2, hgo2⟩
    have HM12 := Lib.hid hm2
    clear hown1 hown2 hgp2 hgo2 hm2 HBAD HONE
    have HEN : Hid (∀ W, Mod [] w2 W → Calls Try.prog 10 #[nodeV n.author n.clock (.slice pA n.parents.length pc) (.slice oA n.ops.length oc)] W (EncP W (xs, 0))) := Lib.hid (fun W hW => by
      have h := encode_any n gp2 go2 _ _ W (HN2.out.mod0 hW) hnn; rw [hen] at h; exact h)
    have HCK : Hid (∀ W, Mod [] w2 W → Calls Try.prog 15 #[nodeV n.author n.clock (.slice pA n.parents.length pc) (.slice oA n.ops.length oc)] W fun e w' => e = .returned (.int .i64 (0 : Nat)) ∧ Mod [] W w') := Lib.hid (fun W hW => by
      have h := nodeCheck_any n gp2 go2 _ _ W (HN2.out.mod0 hW); rw [hck] at h; exact h)
    have HSZ : Hid (∀ W, Mod [] w2 W → Calls Try.prog 17 #[nodeV n.author n.clock (.slice pA n.parents.length pc) (.slice oA n.ops.length oc)] W fun e w' => e = .returned (.int .i64 (xs.length : Nat)) ∧ Mod [] W w') := Lib.hid (fun W hW => by
      have h := nodeSize_any n gp2 go2 _ _ W (HN2.out.mod0 hW) hnn; rw [hsz] at h; exact h)
    clear hen hsz hck hnn hlen
    go_wp2_with (first | ((with_reducible refine wpList_store_node (au := n.author) (cl := n.clock) (pv := .slice pA n.parents.length pc) (ov := .slice oA n.ops.length oc) _ _ rfl ?hgd ?hx ?hy (Blk.new _ _ _) ?hold ?hp ?hv ?_); (case hgd => exact rfl); (case hx => exact rfl); (case hy => exact rfl); (case hold => exact rfl); (case hp => exact rfl); (case hv => exact rfl); intro w3 hb3 hm3; have HM23 : Hid (Mod [] w2 w3) := Lib.hid (((Mod.refl [] w2).alloc _).then hm3 (by simp)); have HV3 := Lib.hid hb3; clear hb3 hm3))
    refine (HENT2.out w3 (HM12.out.trans HM23.out)).mono ?_
    rintro e' w4 ⟨pv3, ov3, rfl, hown1, hown2, hm4⟩
    obtain ⟨pA3, pc3, rfl, _, _⟩ := hown1.val
    obtain ⟨oA3, oc3, rfl, _, _⟩ := hown2.val
    have HM34 := Lib.hid hm4
    have hz2 := entryL_one sh n.author n.clock (.slice pA3 n.parents.length pc3) (.slice oA3 n.ops.length oc3) rfl rfl
    clear hown1 hown2 hm4 HENT2
    go_upto_region 5 with (first | ((with_reducible refine wpList_alloc zeroEntry_run rfl ?hgd ?_); (case hgd => exact rfl); intro q5 w5 hb5 hm5 hq5 hl5; have HB5 := Lib.hid hb5; have HM45 := Lib.hid hm5; clear hb5 hm5) | ((with_reducible refine wpList_store_blk rtEntry (cells := entryL sh n.author n.clock (.slice pA3 n.parents.length pc3) (.slice oA3 n.ops.length oc3)) _ _ rfl ?hgd ?hx ?hy HB5.out (entryL_length _ _ _ _ _) ?hold hz2 ?_); (case hgd => exact rfl); (case hx => exact rfl); (case hy => exact rfl); (case hold => exact rfl); intro w6 hb6 hm6; have HM46 : Hid (Mod [] w4 w6) := Lib.hid (HM45.out.then hm6 (by simp; omega)); have HE6 := Lib.hid hb6; clear hb6 hm6))
    have HM36 := Lib.hid (HM34.out.trans HM46.out)
    have HM26 := Lib.hid (HM23.out.trans HM36.out)
    have HM6 := Lib.hid ((HM1.out.trans HM12.out).trans HM26.out)
    have HV6 := Lib.hid (HV3.out.mod HM36.out (by simp))
    obtain ⟨q3, hq3⟩ : ∃ q, w2.heap.size = q := ⟨_, rfl⟩
    rw [hq3] at HV6 ⊢
    clear hq3 HM45 HM46 HB5 hq5 hl5 HV3 HM34 HM36 HM23
    obtain ⟨_, _, _, _, HC⟩ := HV6.out.open_
    go_wp2_with (first | ((with_reducible refine wpList_load_node _ rfl ?hgd HC.out ?hx ?_); (case hgd => exact rfl); (case hx => exact rfl)))
    refine (HEN.out w6 HM26.out).mono ?_
    rintro e' w7 ⟨v7, rfl, hown7, hm7, _⟩
    obtain ⟨g7, hb7, _⟩ := hown7.bs
    obtain ⟨A7, c7, rfl, hc71, hc72⟩ := hb7.val
    have hcd := conv_all hb7 [] (by simp)
    have HM7 := Lib.hid (HM6.out.trans hm7)
    have HM27 := Lib.hid (HM26.out.trans hm7)
    have hce := conv_all (RS.mod HS.out HM7.out (by simp)) [] (by simp)
    have HV7 := Lib.hid (HV6.out.mod hm7 (by simp))
    have HE7 := Lib.hid (Blk.mod HE6.out hm7 (by simp))
    clear hown7 hb7 hm7 HC HV6 HE6 HM6 HM26
    have HL3 : Hid (∀ W, Mod [] w7 W → CellsAt W q3 0 (nodeL n.author n.clock (.slice pA n.parents.length pc) (.slice oA n.ops.length oc))) := Lib.hid (fun W hW => CellsAt.of_blk (HV7.out.mod hW (by simp)))
    have HE : Hid (∀ W, Mod [] w7 W → EntB W q5 sh n.author n.clock (.slice pA3 n.parents.length pc3) (.slice oA3 n.ops.length oc3)) := Lib.hid (fun W hW => Blk.mod HE7.out hW (by simp))
    have hw0 : Mod [] w7 w7.drew := (Mod.refl _ w7).drew
    go_wp2_with fail
    have HF := Lib.hid hw0
    refine wp_regionE (Mod []) (by kernel_rfl) ?_
    simp only [List.size_toArray, List.length_cons, List.length_nil, Nat.zero_add, Nat.reduceAdd]
    refine wpAnyE_takeL (preMod _) 0 (v := ?_) rfl (by kernel_rfl) (by kernel_rfl) (by kernel_rfl) (fun _ _ _ h => h) (Or.inl ⟨by rfl, ?_⟩) ?_
    rotate_left; (intro W hW; (try dsimp only at hW); refine (run_load_cells rtNode (.tmp 3) (by rfl) (by rfl) rfl (HL3.out W (HF.out.trans hW))).trans ?_; try with_reducible rfl)
    (try simp only [Act.put, List.setIfInBounds_toArray, List.set_cons_zero, List.set_cons_succ])
    refine wpAnyE_ready (rs := [1]) (by kernel_rfl) (by simp) ?_
    refine AllReadyE.consL rfl (fun K hK => ?_) AllReadyE.nil
    rw [if_pos (by rfl)]
    go_simp
    go_at_call 15
    refine (HCK.out _ (HM27.out.trans HF.out)).mono ?_
    rintro e' w11 ⟨rfl, hm11⟩
    have hmE := hm11
    have HFnew := Lib.hid (HF.out.trans hm11); clear HF; have HF := HFnew; clear HFnew
    go_wp2_with fail
    refine hK.out _ _ (by first | exact hmE | exact Mod.refl _ _ | exact (Mod.refl _ _).alloc _) ?_
    clear hK
    (try simp only [Act.put, List.setIfInBounds_toArray, List.set_cons_zero, List.set_cons_succ])
    refine wpAnyE_takeL (preMod _) 2 (v := ?_) rfl (by kernel_rfl) (by kernel_rfl) (by kernel_rfl) (fun _ _ _ h => h) (Or.inl ⟨by rfl, ?_⟩) ?_
    rotate_left; (intro W hW; (try dsimp only at hW); go_simp; try with_reducible rfl)
    (try simp only [Act.put, List.setIfInBounds_toArray, List.set_cons_zero, List.set_cons_succ])
    refine wpAnyE_takeL (preMod _) 3 (v := ?_) rfl (by kernel_rfl) (by kernel_rfl) (by kernel_rfl) (fun _ _ _ h => h) (Or.inl ⟨by rfl, ?_⟩) ?_
    rotate_left; (intro W hW; (try dsimp only at hW); go_simp; try with_reducible rfl)
    (try simp only [Act.put, List.setIfInBounds_toArray, List.set_cons_zero, List.set_cons_succ])
    refine wpAnyE_takeL (preMod _) 4 (v := ?_) rfl (by kernel_rfl) (by kernel_rfl) (by kernel_rfl) (fun _ _ _ h => h) (Or.inl ⟨by rfl, ?_⟩) ?_
    rotate_left; (intro W hW; (try dsimp only at hW); go_simp; try with_reducible rfl)
    (try simp only [Act.put, List.setIfInBounds_toArray, List.set_cons_zero, List.set_cons_succ])
    refine wpAnyE_takeL (preMod _) 5 (v := ?_) rfl (by kernel_rfl) (by kernel_rfl) (by kernel_rfl) (fun _ _ _ h => h) (Or.inl ⟨by rfl, ?_⟩) ?_
    rotate_left; (intro W hW; (try dsimp only at hW); go_simp; try with_reducible rfl)
    (try simp only [Act.put, List.setIfInBounds_toArray, List.set_cons_zero, List.set_cons_succ])
    refine wpAnyE_takeL (preMod _) 6 (v := ?_) rfl (by kernel_rfl) (by kernel_rfl) (by kernel_rfl) (fun _ _ _ h => h) (Or.inl ⟨by rfl, ?_⟩) ?_
    rotate_left; (intro W hW; (try dsimp only at hW); go_simp; try with_reducible rfl)
    (try simp only [Act.put, List.setIfInBounds_toArray, List.set_cons_zero, List.set_cons_succ])
    refine wpAnyE_takeL (preMod _) 7 (v := ?_) rfl (by kernel_rfl) (by kernel_rfl) (by kernel_rfl) (fun _ _ _ h => h) (Or.inl ⟨by rfl, ?_⟩) ?_
    rotate_left; (intro W hW; (try dsimp only at hW); go_simp; try with_reducible rfl)
    (try simp only [Act.put, List.setIfInBounds_toArray, List.set_cons_zero, List.set_cons_succ])
    refine wpAnyE_takeL (preMod _) 8 (v := ?_) rfl (by kernel_rfl) (by kernel_rfl) (by kernel_rfl) (fun _ _ _ h => h) (Or.inl ⟨by rfl, ?_⟩) ?_
    rotate_left; (intro W hW; (try dsimp only at hW); go_simp; try with_reducible rfl)
    (try simp only [Act.put, List.setIfInBounds_toArray, List.set_cons_zero, List.set_cons_succ])
    refine wpAnyE_takeL (preMod _) 9 (v := ?_) rfl (by kernel_rfl) (by kernel_rfl) (by kernel_rfl) (fun _ _ _ h => h) (Or.inl ⟨by rfl, ?_⟩) ?_
    rotate_left; (intro W hW; (try dsimp only at hW); (have hcw := hcd W (HF.out.trans hW); go_simp); try with_reducible rfl)
    (try simp only [Act.put, List.setIfInBounds_toArray, List.set_cons_zero, List.set_cons_succ])
    refine wpAnyE_takeL (preMod _) 10 (v := ?_) rfl (by kernel_rfl) (by kernel_rfl) (by kernel_rfl) (fun _ _ _ h => h) (Or.inl ⟨by rfl, ?_⟩) ?_
    rotate_left; (intro W hW; (try dsimp only at hW); go_simp; try with_reducible rfl)
    (try simp only [Act.put, List.setIfInBounds_toArray, List.set_cons_zero, List.set_cons_succ])
    refine wpAnyE_takeL (preMod _) 11 (v := ?_) rfl (by kernel_rfl) (by kernel_rfl) (by kernel_rfl) (fun _ _ _ h => h) (Or.inl ⟨by rfl, ?_⟩) ?_
    rotate_left; (intro W hW; (try dsimp only at hW); (have hcw := hce W (HF.out.trans hW); go_simp); try with_reducible rfl)
    (try simp only [Act.put, List.setIfInBounds_toArray, List.set_cons_zero, List.set_cons_succ])
    refine wpAnyE_takeL (preMod _) 12 (v := ?_) rfl (by kernel_rfl) (by kernel_rfl) (by kernel_rfl) (fun _ _ _ h => h) (Or.inl ⟨by rfl, ?_⟩) ?_
    rotate_left; (intro W hW; (try dsimp only at hW); go_simp; try with_reducible rfl)
    (try simp only [Act.put, List.setIfInBounds_toArray, List.set_cons_zero, List.set_cons_succ])
    refine wpAnyE_takeL (preMod _) 13 (v := ?_) rfl (by kernel_rfl) (by kernel_rfl) (by kernel_rfl) (fun _ _ _ h => h) (Or.inl ⟨by rfl, ?_⟩) ?_
    rotate_left; (intro W hW; (try dsimp only at hW); go_simp; try with_reducible rfl)
    (try simp only [Act.put, List.setIfInBounds_toArray, List.set_cons_zero, List.set_cons_succ])
    refine wpAnyE_takeL (preMod _) 14 (v := ?_) rfl (by kernel_rfl) (by kernel_rfl) (by kernel_rfl) (fun _ _ _ h => h) (Or.inl ⟨by rfl, ?_⟩) ?_
    rotate_left; (intro W hW; (try dsimp only at hW); go_simp; try with_reducible rfl)
    (try simp only [Act.put, List.setIfInBounds_toArray, List.set_cons_zero, List.set_cons_succ])
    refine wpAnyE_takeL (preMod _) 15 (v := ?_) rfl (by kernel_rfl) (by kernel_rfl) (by kernel_rfl) (fun _ _ _ h => h) (Or.inl ⟨by rfl, ?_⟩) ?_
    rotate_left; (intro W hW; (try dsimp only at hW); refine (run_load_cells rtNode (.tmp 3) (by rfl) (by rfl) rfl (HL3.out W (HF.out.trans hW))).trans ?_; try with_reducible rfl)
    (try simp only [Act.put, List.setIfInBounds_toArray, List.set_cons_zero, List.set_cons_succ])
    refine wpAnyE_takeL (preMod _) 17 (v := ?_) rfl (by kernel_rfl) (by kernel_rfl) (by kernel_rfl) (fun _ _ _ h => h) (Or.inl ⟨by rfl, ?_⟩) ?_
    rotate_left; (intro W hW; (try dsimp only at hW); go_simp; try with_reducible rfl)
    (try simp only [Act.put, List.setIfInBounds_toArray, List.set_cons_zero, List.set_cons_succ])
    refine wpAnyE_takeL (preMod _) 18 (v := ?_) rfl (by kernel_rfl) (by kernel_rfl) (by kernel_rfl) (fun _ _ _ h => h) (Or.inl ⟨by rfl, ?_⟩) ?_
    rotate_left; (intro W hW; (try dsimp only at hW); go_simp; try with_reducible rfl)
    (try simp only [Act.put, List.setIfInBounds_toArray, List.set_cons_zero, List.set_cons_succ])
    refine wpAnyE_ready (rs := [16]) (by kernel_rfl) (by simp) ?_
    refine AllReadyE.consL rfl (fun K hK => ?_) AllReadyE.nil
    rw [if_pos (by rfl)]
    go_simp
    go_at_call 17
    refine (HSZ.out _ (HM27.out.trans HF.out)).mono ?_
    rintro e' w12 ⟨rfl, hm12⟩
    have hmE := hm12
    have HFnew := Lib.hid (HF.out.trans hm12); clear HF; have HF := HFnew; clear HFnew
    go_wp2_with fail
    refine hK.out _ _ (by first | exact hmE | exact Mod.refl _ _ | exact (Mod.refl _ _).alloc _) ?_
    clear hK
    (try simp only [Act.put, List.setIfInBounds_toArray, List.set_cons_zero, List.set_cons_succ])
    refine wpAnyE_takeL (preMod _) 19 (v := ?_) rfl (by kernel_rfl) (by kernel_rfl) (by kernel_rfl) (fun _ _ _ h => h) (Or.inl ⟨by rfl, ?_⟩) ?_
    rotate_left; (intro W hW; (try dsimp only at hW); go_simp; try with_reducible rfl)
    (try simp only [Act.put, List.setIfInBounds_toArray, List.set_cons_zero, List.set_cons_succ])
    refine wpAnyE_takeL (preMod _) 20 (v := ?_) rfl (by kernel_rfl) (by kernel_rfl) (by kernel_rfl) (fun _ _ _ h => h) (Or.inl ⟨by rfl, ?_⟩) ?_
    rotate_left; (intro W hW; (try dsimp only at hW); go_simp; try with_reducible rfl)
    (try simp only [Act.put, List.setIfInBounds_toArray, List.set_cons_zero, List.set_cons_succ])
    refine wpAnyE_takeL (preMod _) 21 (v := ?_) rfl (by kernel_rfl) (by kernel_rfl) (by kernel_rfl) (fun _ _ _ h => h) (Or.inl ⟨by rfl, ?_⟩) ?_
    rotate_left; (intro W hW; (try dsimp only at hW); go_simp; try with_reducible rfl)
    (try simp only [Act.put, List.setIfInBounds_toArray, List.set_cons_zero, List.set_cons_succ])
    refine wpAnyE_takeL (preMod _) 22 (v := ?_) rfl (by kernel_rfl) (by kernel_rfl) (by kernel_rfl) (fun _ _ _ h => h) (Or.inl ⟨by rfl, ?_⟩) ?_
    rotate_left; (intro W hW; (try dsimp only at hW); go_simp; try with_reducible rfl)
    (try simp only [Act.put, List.setIfInBounds_toArray, List.set_cons_zero, List.set_cons_succ])
    refine wpAnyE_takeL (preMod _) 23 (v := ?_) rfl (by kernel_rfl) (by kernel_rfl) (by kernel_rfl) (fun _ _ _ h => h) (Or.inl ⟨by rfl, ?_⟩) ?_
    rotate_left; (intro W hW; (try dsimp only at hW); refine Eq.trans (b := Result.ok (.value sh.val) W) (run_load_cells rtHash (.tmp 99) (by rfl) (by rfl) (GHash.cells_length _) ((HE.out W (HF.out.trans hW)).parts.2.1)) ?_; try with_reducible rfl)
    (try simp only [Act.put, List.setIfInBounds_toArray, List.set_cons_zero, List.set_cons_succ])
    refine wpAnyE_takeL (preMod _) 24 (v := ?_) rfl (by kernel_rfl) (by kernel_rfl) (by kernel_rfl) (fun _ _ _ h => h) (Or.inl ⟨by rfl, ?_⟩) ?_
    rotate_left; (intro W hW; (try dsimp only at hW); go_simp; try with_reducible rfl)
    (try simp only [Act.put, List.setIfInBounds_toArray, List.set_cons_zero, List.set_cons_succ])
    refine wpAnyE_ready (rs := [25]) (by kernel_rfl) (by simp) ?_
    refine AllReadyE.consL rfl (fun K hK => ?_) AllReadyE.nil
    rw [if_pos (by rfl)]
    go_simp
    go_at_call 24
    refine (HSHA.out _ (HM7.out.trans HF.out) HLX.out).mono ?_
    rintro e' w13 ⟨rfl, hm13⟩
    have hmE := hm13
    have HFnew := Lib.hid (HF.out.trans hm13); clear HF; have HF := HFnew; clear HFnew
    go_wp2_with fail
    refine hK.out _ _ (by first | exact hmE | exact Mod.refl _ _ | exact (Mod.refl _ _).alloc _) ?_
    clear hK
    (try simp only [Act.put, List.setIfInBounds_toArray, List.set_cons_zero, List.set_cons_succ])
    refine wpAnyE_takeL (preMod _) 26 (v := ?_) rfl (by kernel_rfl) (by kernel_rfl) (by kernel_rfl) (fun _ _ _ h => h) (Or.inl ⟨by rfl, ?_⟩) ?_
    rotate_left; (intro W hW; (try dsimp only at hW); go_simp; try with_reducible rfl)
    (try simp only [Act.put, List.setIfInBounds_toArray, List.set_cons_zero, List.set_cons_succ])
    refine wpAnyE_takeL (preMod _) 27 (v := ?_) rfl (by kernel_rfl) (by kernel_rfl) (by kernel_rfl) (fun _ _ _ h => h) (Or.inl ⟨by rfl, ?_⟩) ?_
    rotate_left; (intro W hW; (try dsimp only at hW); go_simp; try with_reducible rfl)
    (try simp only [Act.put, List.setIfInBounds_toArray, List.set_cons_zero, List.set_cons_succ])
    refine wpAnyE_takeL (preMod _) 28 (v := ?_) rfl (by kernel_rfl) (by kernel_rfl) (by kernel_rfl) (fun _ _ _ h => h) (Or.inl ⟨by rfl, ?_⟩) ?_
    rotate_left; (intro W hW; (try dsimp only at hW); go_simp; try with_reducible rfl)
    (try simp only [Act.put, List.setIfInBounds_toArray, List.set_cons_zero, List.set_cons_succ])
    refine wpAnyE_done (by kernel_rfl) ?_ _
    go_wp2_with fail
    go_ret
    exact ⟨rfl, HM7.out.trans HF.out⟩
end Go.Proofs.Ytlpjeckhejbkkaa
end

section
set_option linter.unusedVariables false
namespace Go.Proofs.Ytlpjeckhejbkkaa
open Go.ChangeShapes Go.WideShapes Go.ChangeAt Go.RowKit

theorem nform_own : ownKnob Try.prog.godebug = none := by kernel_rfl
theorem nform_laidOut : laidOutB Try.prog = true := by kernel_rfl
set_option maxRecDepth 100000 in
theorem nform_lifted (os : Os) (started : os.Started) (H : Type) (enc : TypeId × Value → H) :
    ReturnsInHanded {} Try.checked os 7 .any (Rows.nodeOneFormSpec.pre6 enc Try.prog Try.f7 Rows.nodeOneFormRow.domain false) (Rows.nodeOneFormSpec.post enc Try.prog Try.f7 false true false false) := by
  refine returnsInHanded_of_change_sized (C := Try.checked) nform_own started (by kernel_rfl) Try.func7
    (ChangeSpec.witness6 (enc := enc) (C := Try.checked) false ⟨#[], #[.slice none 0 0], []⟩ 8 (by kernel_rfl) (by kernel_rfl) (by kernel_rfl) (by kernel_rfl)) ?_
  intro W base args ds gs before hval0 hW hcnd hsz0 _
  have hsz : (DataW.weightsEach Try.prog (Try.f7.params.toList ++ Rows.nodeOneFormSpec.plain.varTypes Try.prog) (ds ++ gs)).all (· ≤ reachBytes) = true := hsz0
  clear hsz0
  have hval : ∀ (j : Nat) t v, Try.f7.params[j]? = some t → args[j]? = some v → Value.okWide Try.prog W .any base t v := hval0
  have hW' := hW
  obtain ⟨p, q, hA0, hV, rfl, hfz, hnd⟩ := hW
  have hA : DataW.TrodAll enc Try.prog W 0 (fun _ => true) true Try.f7.params.toList args.toList ds p := hA0
  rw [Try.params7] at hA hval hsz
  obtain ⟨v0, vs0, d0, ds0, p0, q0, hargs, rfl, rfl, h0, r0⟩ := trodAll_cons hA
  obtain ⟨rfl, rfl, rfl⟩ := trodAll_nil r0
  obtain rfl : args = #[v0] := by cases args; simp_all
  obtain ⟨rfl, rfl⟩ := trodVars_none hV
  obtain ⟨b0, len0, cap0, rfl⟩ := okWide_slice Try.underlying27 (hval 0 27 v0 rfl rfl)
  have k0 := h0
  have lt0 : ∀ x ∈ p0, x.block < W.heap.size := by obtain ⟨m, hm⟩ := k0; exact DataW.trod_lt m _ _ _ hm
  obtain ⟨g0, x0, w0, z0⟩ : ∃ g l, BS W g (.slice b0 len0 cap0) l ∧ l.length ≤ 140737488351232 := by
    obtain ⟨fuel, hf⟩ := h0
    obtain ⟨v, g, l, hcs, hos, hns⟩ := open_bytes hf
    simp [Value.cells] at hcs
    subst hcs
    exact ⟨g, l, hos, bytes_short (P := Try.prog) hsz (j := 0) rfl rfl hns⟩
  clear hA0 hval0
  refine (nodeOneForm_any x0 g0 _ W w0).mono fun e W' ⟨he, hm⟩ => ?_
  have bel : Below W.heap.size W W' := hm.below (by simp)
  subst he
  exact ⟨_, rfl, _, _, _, [], _, [], hW', trodAll_mk1 (shut_bool Try.underlying4 _), (trodAll_cons_mk (Below.trod nform_laidOut (by kernel_rfl) (of_decide_eq_true (by kernel_rfl)) k0 bel lt0) trodAll_mk0), rfl, bel.frame _, fun h => by cases h⟩
theorem nform_over : Rows.nodeOneFormRow.holds Try.pinned (OpenSpec.ofChange Rows.nodeOneFormSpec) :=
  OpenClaim.holds_of_wide 7 Try.f7 rfl rfl rfl rfl rfl rfl rfl ⟨rfl, rfl, rfl, rfl, rfl⟩ rfl rfl rfl rfl rfl (by kernel_rfl) Try.func7 (by kernel_rfl)
    (of_decide_eq_true (by kernel_rfl)) (by unfold Func.isWrapper; first | (rw [if_pos (by decide +kernel)]; kernel_rfl) | (rw [if_neg (by decide +kernel)]; exact ⟨rfl, rfl⟩))
    (fun os started H enc _ => nform_lifted os started H enc)
theorem nodeOneForm : Rows.NodeOneFormSaid := nform_over
#print axioms nodeOneForm
end Go.Proofs.Ytlpjeckhejbkkaa
end
