/-
  NodeSames: which transactions are the same, and what the graph knows of them, are as the document says: the law returns true, whatever the two entries; no condition.
-/
import Derived.Test.YtlpjeckhejbkkaaG5
import Derived.Test.YtlpjeckhejbkkaaRows
section
set_option linter.unusedVariables false
set_option linter.unusedSimpArgs false
set_option maxRecDepth 20000
set_option maxHeartbeats 1600000
namespace Go.Proofs.Ytlpjeckhejbkkaa
open Go.RowKit

/-! ### lists that are equal -/
theorem eqHashes_any (l1 l2 : List GHash) (g1 g2 : Nat) (v1 v2 : Value) (w : World) (h1 : HS w g1 v1 l1) (h2 : HS w g2 v2 l2) :
    Calls Try.prog 35 #[v1, v2] w fun e w' => e = .returned (.bool (decide (l1 = l2))) ∧ Mod [] w w' := by
  obtain ⟨A1, c1, rfl, hc1, hc1'⟩ := h1.val
  obtain ⟨A2, c2, rfl, hc2, hc2'⟩ := h2.val
  unfold maxLen at hc1' hc2'
  have HS1 := Lib.hid h1; clear h1
  have HS2 := Lib.hid h2; clear h2
  by_cases hl : l1.length = l2.length
  · have hl' : (l1.length : Int) = (l2.length : Int) := by omega
    rw [hl] at hc1 ⊢
    have HL := Lib.hid hl; clear hl
    go_enter Try.func35, Try.ntmps35
    go_wp2_with fail
    go_loopw [13] (fun s5 wr => ∃ i : Nat, s5 = .int .i64 (i : Int) ∧ i ≤ l2.length ∧ Hid (l1.take i = l2.take i) ∧ Hid (Mod [] w wr)) (fun s _ => l2.length - (intOf s).toNat)
    case atStart => exact ⟨0, rfl, by omega, Lib.hid rfl, Lib.hid (Mod.refl _ _)⟩
    case round =>
      obtain ⟨i, rfl, hi, HT, HM⟩ := hrel
      by_cases hil : i < l2.length
      · have h1l : i < l1.length := by have := HL.out; omega
        have HOA : Hid (HS wr g1 _ l1) := Lib.hid (HS1.out.mod HM.out (by simp))
        have HOB : Hid (HS wr g2 _ l2) := Lib.hid (HS2.out.mod HM.out (by simp))
        obtain ⟨o1, ca, hv1, _, _, _, hA⟩ := HS.item HOA.out (by omega)
        obtain ⟨o2, cb, hv2, _, _, _, hB⟩ := HS.item HOB.out (by omega)
        injection hv1 with hx1 hx2 hx3
        injection hv2 with hy1 hy2 hy3
        subst hx1 hx3 hy1 hy3
        have HA := Lib.hid (hA i h1l)
        have HB := Lib.hid (hB i hil)
        obtain ⟨a, ha⟩ : ∃ a, l1[i] = a := ⟨_, rfl⟩
        obtain ⟨b, hb⟩ : ∃ b, l2[i] = b := ⟨_, rfl⟩
        have HTA : Hid (l1.take (i + 1) = l1.take i ++ [a]) := Lib.hid (by rw [List.take_succ_eq_append_getElem h1l, ha])
        have HTB : Hid (l2.take (i + 1) = l2.take i ++ [b]) := Lib.hid (by rw [List.take_succ_eq_append_getElem hil, hb])
        have HNE : Hid (a ≠ b → l1 ≠ l2) := Lib.hid (fun h e => by subst e; exact h (ha.symm.trans hb))
        rw [ha] at HA
        rw [hb] at HB
        clear hA hB hx2 hy2 ha hb
        have hil' : (i : Int) < (l2.length : Int) := by omega
        go_wp2_with fail
        have hw0 : Mod [] wr wr.drew := (Mod.refl _ wr).drew
        have hlA : ∀ W, Mod [] wr W → CellsAt W g1 (o1 + i * 32) a.cells := fun W hW => CellsAt.mod HA.out hW (by simp)
        have hlB : ∀ W, Mod [] wr W → CellsAt W g2 (o2 + i * 32) b.cells := fun W hW => CellsAt.mod HB.out hW (by simp)
        have HLA := Lib.hid hlA
        have HLB := Lib.hid hlB
        clear hlA hlB
        refine wp_regionE (Mod []) (by kernel_rfl) ?_
        simp only [List.size_toArray, List.length_cons, List.length_nil, Nat.zero_add, Nat.reduceAdd]
        refine wpAnyE_takeL (preMod _) 0 (v := ?_) rfl (by kernel_rfl) (by kernel_rfl) (by kernel_rfl) (fun _ _ _ h => h) (Or.inl ⟨by rfl, ?_⟩) ?_
        rotate_left; (intro W hW; (try dsimp only at hW); go_simp; try with_reducible rfl)
        (try simp only [Act.put, List.setIfInBounds_toArray, List.set_cons_zero, List.set_cons_succ])
        refine wpAnyE_takeL (preMod _) 1 (v := ?_) rfl (by kernel_rfl) (by kernel_rfl) (by kernel_rfl) (fun _ _ _ h => h) (Or.inl ⟨by rfl, ?_⟩) ?_
        rotate_left; (intro W hW; (try dsimp only at hW); go_simp; try with_reducible rfl)
        (try simp only [Act.put, List.setIfInBounds_toArray, List.set_cons_zero, List.set_cons_succ])
        refine wpAnyE_takeL (preMod _) 2 (v := ?_) rfl (by kernel_rfl) (by kernel_rfl) (by kernel_rfl) (fun _ _ _ h => h) (Or.inl ⟨by rfl, ?_⟩) ?_
        rotate_left; (intro W hW; (try dsimp only at hW); go_simp; try with_reducible rfl)
        (try simp only [Act.put, List.setIfInBounds_toArray, List.set_cons_zero, List.set_cons_succ])
        refine wpAnyE_takeL (preMod _) 3 (v := ?_) rfl (by kernel_rfl) (by kernel_rfl) (by kernel_rfl) (fun _ _ _ h => h) (Or.inl ⟨by rfl, ?_⟩) ?_
        rotate_left; (intro W hW; (try dsimp only at hW); refine (run_load_cells rtHash (.tmp 18) (by rfl) (by rfl) (GHash.cells_length _) (HLA.out W (hw0.trans hW))).trans ?_; change Result.ok (Next.value (GHash.val a)) W = _; try with_reducible rfl)
        (try simp only [Act.put, List.setIfInBounds_toArray, List.set_cons_zero, List.set_cons_succ])
        refine wpAnyE_takeL (preMod _) 4 (v := ?_) rfl (by kernel_rfl) (by kernel_rfl) (by kernel_rfl) (fun _ _ _ h => h) (Or.inl ⟨by rfl, ?_⟩) ?_
        rotate_left; (intro W hW; (try dsimp only at hW); go_simp; try with_reducible rfl)
        (try simp only [Act.put, List.setIfInBounds_toArray, List.set_cons_zero, List.set_cons_succ])
        refine wpAnyE_takeL (preMod _) 5 (v := ?_) rfl (by kernel_rfl) (by kernel_rfl) (by kernel_rfl) (fun _ _ _ h => h) (Or.inl ⟨by rfl, ?_⟩) ?_
        rotate_left; (intro W hW; (try dsimp only at hW); go_simp; try with_reducible rfl)
        (try simp only [Act.put, List.setIfInBounds_toArray, List.set_cons_zero, List.set_cons_succ])
        refine wpAnyE_takeL (preMod _) 6 (v := ?_) rfl (by kernel_rfl) (by kernel_rfl) (by kernel_rfl) (fun _ _ _ h => h) (Or.inl ⟨by rfl, ?_⟩) ?_
        rotate_left; (intro W hW; (try dsimp only at hW); go_simp; try with_reducible rfl)
        (try simp only [Act.put, List.setIfInBounds_toArray, List.set_cons_zero, List.set_cons_succ])
        refine wpAnyE_takeL (preMod _) 7 (v := ?_) rfl (by kernel_rfl) (by kernel_rfl) (by kernel_rfl) (fun _ _ _ h => h) (Or.inl ⟨by rfl, ?_⟩) ?_
        rotate_left; (intro W hW; (try dsimp only at hW); refine (run_load_cells rtHash (.tmp 22) (by rfl) (by rfl) (GHash.cells_length _) (HLB.out W (hw0.trans hW))).trans ?_; change Result.ok (Next.value (GHash.val b)) W = _; try with_reducible rfl)
        (try simp only [Act.put, List.setIfInBounds_toArray, List.set_cons_zero, List.set_cons_succ])
        refine wpAnyE_takeL (preMod _) 8 (v := ?_) rfl (by kernel_rfl) (by kernel_rfl) (by kernel_rfl) (fun _ _ _ h => h) (Or.inl ⟨by rfl, ?_⟩) ?_
        rotate_left; (intro W hW; (try dsimp only at hW); go_simp; try with_reducible rfl)
        (try simp only [Act.put, List.setIfInBounds_toArray, List.set_cons_zero, List.set_cons_succ])
        refine wpAnyE_done (by kernel_rfl) ?_ _
        have HMW : Hid (Mod [] w wr.drew) := Lib.hid (HM.out.trans hw0)
        by_cases heq : (a == b) = true
        · rw [heq]
          have HE := Lib.hid (eq_of_beq heq)
          clear heq
          go_wp2_with fail
          go_roundw
          case rel =>
            refine ⟨i + 1, by go_num, by omega, Lib.hid ?_, HMW⟩
            rw [HTA.out, HTB.out, HT.out, HE.out]
          case measure => simp [intOf]; omega
        · rw [Bool.not_eq_true] at heq
          rw [heq]
          have HF : Hid (decide (l1 = l2) = false) := Lib.hid (decide_eq_false (HNE.out (by simpa using heq)))
          clear heq
          go_wp2_with fail
          go_ret
          exact ⟨ret_bool HF.out.symm, HMW.out⟩
      · have hie : i = l2.length := by omega
        have he : l1 = l2 := by
          have h := HT.out
          rw [hie, List.take_length, ← HL.out, List.take_length] at h
          exact h
        have HF : Hid (decide (l1 = l2) = true) := Lib.hid (decide_eq_true he)
        have hilf : ¬ ((i : Int) < (l2.length : Int)) := by omega
        clear hie he HT
        go_wp2_with fail
        go_ret
        exact ⟨ret_bool HF.out.symm, HM.out⟩
  · have hl' : ¬ ((l1.length : Int) = (l2.length : Int)) := by omega
    have HF : Hid (decide (l1 = l2) = false) := Lib.hid (decide_eq_false (fun h => hl (by rw [h])))
    go_enter Try.func35, Try.ntmps35
    go_wp2
    go_ret
    exact ⟨ret_bool HF.out.symm, Mod.refl _ _⟩
theorem refEqHashes_any (l1 l2 : List GHash) (g1 g2 : Nat) (v1 v2 : Value) (w : World) (h1 : HS w g1 v1 l1) (h2 : HS w g2 v2 l2) :
    Calls Try.prog 21 #[v1, v2] w fun e w' => e = .returned (.bool (decide (l1 = l2))) ∧ Mod [] w w' := by
  obtain ⟨A1, c1, rfl, hc1, hc1'⟩ := h1.val
  obtain ⟨A2, c2, rfl, hc2, hc2'⟩ := h2.val
  unfold maxLen at hc1' hc2'
  have HS1 := Lib.hid h1; clear h1
  have HS2 := Lib.hid h2; clear h2
  by_cases hl : l1.length = l2.length
  · have hl' : (l1.length : Int) = (l2.length : Int) := by omega
    rw [hl] at hc1 ⊢
    have HL := Lib.hid hl; clear hl
    go_enter Try.func21, Try.ntmps21
    go_wp2_with fail
    go_loopw [5] (fun s5 wr => ∃ i : Nat, s5 = .int .i64 (i : Int) ∧ i ≤ l2.length ∧ Hid (l1.take i = l2.take i) ∧ Hid (Mod [] w wr)) (fun s _ => l2.length - (intOf s).toNat)
    case atStart => exact ⟨0, rfl, by omega, Lib.hid rfl, Lib.hid (Mod.refl _ _)⟩
    case round =>
      obtain ⟨i, rfl, hi, HT, HM⟩ := hrel
      by_cases hil : i < l2.length
      · have h1l : i < l1.length := by have := HL.out; omega
        have HOA : Hid (HS wr g1 _ l1) := Lib.hid (HS1.out.mod HM.out (by simp))
        have HOB : Hid (HS wr g2 _ l2) := Lib.hid (HS2.out.mod HM.out (by simp))
        obtain ⟨o1, ca, hv1, _, _, _, hA⟩ := HS.item HOA.out (by omega)
        obtain ⟨o2, cb, hv2, _, _, _, hB⟩ := HS.item HOB.out (by omega)
        injection hv1 with hx1 hx2 hx3
        injection hv2 with hy1 hy2 hy3
        subst hx1 hx3 hy1 hy3
        have HA := Lib.hid (hA i h1l)
        have HB := Lib.hid (hB i hil)
        obtain ⟨a, ha⟩ : ∃ a, l1[i] = a := ⟨_, rfl⟩
        obtain ⟨b, hb⟩ : ∃ b, l2[i] = b := ⟨_, rfl⟩
        have HTA : Hid (l1.take (i + 1) = l1.take i ++ [a]) := Lib.hid (by rw [List.take_succ_eq_append_getElem h1l, ha])
        have HTB : Hid (l2.take (i + 1) = l2.take i ++ [b]) := Lib.hid (by rw [List.take_succ_eq_append_getElem hil, hb])
        have HNE : Hid (a ≠ b → l1 ≠ l2) := Lib.hid (fun h e => by subst e; exact h (ha.symm.trans hb))
        rw [ha] at HA
        rw [hb] at HB
        clear hA hB hx2 hy2 ha hb
        have hil' : (i : Int) < (l2.length : Int) := by omega
        go_wp2_with fail
        have hw0 : Mod [] wr wr.drew := (Mod.refl _ wr).drew
        have hlA : ∀ W, Mod [] wr W → CellsAt W g1 (o1 + i * 32) a.cells := fun W hW => CellsAt.mod HA.out hW (by simp)
        have hlB : ∀ W, Mod [] wr W → CellsAt W g2 (o2 + i * 32) b.cells := fun W hW => CellsAt.mod HB.out hW (by simp)
        have HLA := Lib.hid hlA
        have HLB := Lib.hid hlB
        clear hlA hlB
        refine wp_regionE (Mod []) (by kernel_rfl) ?_
        simp only [List.size_toArray, List.length_cons, List.length_nil, Nat.zero_add, Nat.reduceAdd]
        refine wpAnyE_takeL (preMod _) 0 (v := ?_) rfl (by kernel_rfl) (by kernel_rfl) (by kernel_rfl) (fun _ _ _ h => h) (Or.inl ⟨by rfl, ?_⟩) ?_
        rotate_left; (intro W hW; (try dsimp only at hW); go_simp; try with_reducible rfl)
        (try simp only [Act.put, List.setIfInBounds_toArray, List.set_cons_zero, List.set_cons_succ])
        refine wpAnyE_takeL (preMod _) 1 (v := ?_) rfl (by kernel_rfl) (by kernel_rfl) (by kernel_rfl) (fun _ _ _ h => h) (Or.inl ⟨by rfl, ?_⟩) ?_
        rotate_left; (intro W hW; (try dsimp only at hW); go_simp; try with_reducible rfl)
        (try simp only [Act.put, List.setIfInBounds_toArray, List.set_cons_zero, List.set_cons_succ])
        refine wpAnyE_takeL (preMod _) 2 (v := ?_) rfl (by kernel_rfl) (by kernel_rfl) (by kernel_rfl) (fun _ _ _ h => h) (Or.inl ⟨by rfl, ?_⟩) ?_
        rotate_left; (intro W hW; (try dsimp only at hW); go_simp; try with_reducible rfl)
        (try simp only [Act.put, List.setIfInBounds_toArray, List.set_cons_zero, List.set_cons_succ])
        refine wpAnyE_takeL (preMod _) 3 (v := ?_) rfl (by kernel_rfl) (by kernel_rfl) (by kernel_rfl) (fun _ _ _ h => h) (Or.inl ⟨by rfl, ?_⟩) ?_
        rotate_left; (intro W hW; (try dsimp only at hW); refine (run_load_cells rtHash (.tmp 19) (by rfl) (by rfl) (GHash.cells_length _) (HLA.out W (hw0.trans hW))).trans ?_; change Result.ok (Next.value (GHash.val a)) W = _; try with_reducible rfl)
        (try simp only [Act.put, List.setIfInBounds_toArray, List.set_cons_zero, List.set_cons_succ])
        refine wpAnyE_takeL (preMod _) 4 (v := ?_) rfl (by kernel_rfl) (by kernel_rfl) (by kernel_rfl) (fun _ _ _ h => h) (Or.inl ⟨by rfl, ?_⟩) ?_
        rotate_left; (intro W hW; (try dsimp only at hW); go_simp; try with_reducible rfl)
        (try simp only [Act.put, List.setIfInBounds_toArray, List.set_cons_zero, List.set_cons_succ])
        refine wpAnyE_takeL (preMod _) 5 (v := ?_) rfl (by kernel_rfl) (by kernel_rfl) (by kernel_rfl) (fun _ _ _ h => h) (Or.inl ⟨by rfl, ?_⟩) ?_
        rotate_left; (intro W hW; (try dsimp only at hW); go_simp; try with_reducible rfl)
        (try simp only [Act.put, List.setIfInBounds_toArray, List.set_cons_zero, List.set_cons_succ])
        refine wpAnyE_takeL (preMod _) 6 (v := ?_) rfl (by kernel_rfl) (by kernel_rfl) (by kernel_rfl) (fun _ _ _ h => h) (Or.inl ⟨by rfl, ?_⟩) ?_
        rotate_left; (intro W hW; (try dsimp only at hW); go_simp; try with_reducible rfl)
        (try simp only [Act.put, List.setIfInBounds_toArray, List.set_cons_zero, List.set_cons_succ])
        refine wpAnyE_takeL (preMod _) 7 (v := ?_) rfl (by kernel_rfl) (by kernel_rfl) (by kernel_rfl) (fun _ _ _ h => h) (Or.inl ⟨by rfl, ?_⟩) ?_
        rotate_left; (intro W hW; (try dsimp only at hW); refine (run_load_cells rtHash (.tmp 23) (by rfl) (by rfl) (GHash.cells_length _) (HLB.out W (hw0.trans hW))).trans ?_; change Result.ok (Next.value (GHash.val b)) W = _; try with_reducible rfl)
        (try simp only [Act.put, List.setIfInBounds_toArray, List.set_cons_zero, List.set_cons_succ])
        refine wpAnyE_takeL (preMod _) 8 (v := ?_) rfl (by kernel_rfl) (by kernel_rfl) (by kernel_rfl) (fun _ _ _ h => h) (Or.inl ⟨by rfl, ?_⟩) ?_
        rotate_left; (intro W hW; (try dsimp only at hW); go_simp; try with_reducible rfl)
        (try simp only [Act.put, List.setIfInBounds_toArray, List.set_cons_zero, List.set_cons_succ])
        refine wpAnyE_done (by kernel_rfl) ?_ _
        have HMW : Hid (Mod [] w wr.drew) := Lib.hid (HM.out.trans hw0)
        by_cases heq : (a == b) = true
        · rw [heq]
          have HE := Lib.hid (eq_of_beq heq)
          clear heq
          go_wp2_with fail
          go_roundw
          case rel =>
            refine ⟨i + 1, by go_num, by omega, Lib.hid ?_, HMW⟩
            rw [HTA.out, HTB.out, HT.out, HE.out]
          case measure => simp [intOf]; omega
        · rw [Bool.not_eq_true] at heq
          rw [heq]
          have HF : Hid (decide (l1 = l2) = false) := Lib.hid (decide_eq_false (HNE.out (by simpa using heq)))
          clear heq
          go_wp2_with fail
          go_ret
          exact ⟨ret_bool HF.out.symm, HMW.out⟩
      · have hie : i = l2.length := by omega
        have he : l1 = l2 := by
          have h := HT.out
          rw [hie, List.take_length, ← HL.out, List.take_length] at h
          exact h
        have HF : Hid (decide (l1 = l2) = true) := Lib.hid (decide_eq_true he)
        have hilf : ¬ ((i : Int) < (l2.length : Int)) := by omega
        clear hie he HT
        go_wp2_with fail
        go_ret
        exact ⟨ret_bool HF.out.symm, HM.out⟩
  · have hl' : ¬ ((l1.length : Int) = (l2.length : Int)) := by omega
    have HF : Hid (decide (l1 = l2) = false) := Lib.hid (decide_eq_false (fun h => hl (by rw [h])))
    go_enter Try.func21, Try.ntmps21
    go_wp2
    go_ret
    exact ⟨ret_bool HF.out.symm, Mod.refl _ _⟩
theorem same_enter (args : Array Value) (w : World) : (callFunc 37 args).run Try.prog w = .ok (.enter 37 args) w := run_enter Try.func37 (by kernel_rfl) (by kernel_rfl) args w
theorem eqOps_any (l1 l2 : List GOp) (g1 g2 : Nat) (v1 v2 : Value) (w : World) (h1 : OS w g1 v1 l1) (h2 : OS w g2 v2 l2) :
    Calls Try.prog 36 #[v1, v2, .func (.func 37) #[] #[]] w fun e w' => e = .returned (.bool (decide (l1 = l2))) ∧ Mod [] w w' := by
  obtain ⟨A1, c1, rfl, hc1, hc1'⟩ := h1.val
  obtain ⟨A2, c2, rfl, hc2, hc2'⟩ := h2.val
  unfold maxLen at hc1' hc2'
  have HS1 := Lib.hid h1; clear h1
  have HS2 := Lib.hid h2; clear h2
  have hen := same_enter
  by_cases hl : l1.length = l2.length
  · have hl' : (l1.length : Int) = (l2.length : Int) := by omega
    rw [hl] at hc1 ⊢
    have HL := Lib.hid hl; clear hl
    go_enter Try.func36, Try.ntmps36
    go_wp2_with fail
    go_loopw [17] (fun s5 wr => ∃ i : Nat, s5 = .int .i64 (i : Int) ∧ i ≤ l2.length ∧ Hid (l1.take i = l2.take i) ∧ Hid (Mod [] w wr)) (fun s _ => l2.length - (intOf s).toNat)
    case atStart => exact ⟨0, rfl, by omega, Lib.hid rfl, Lib.hid (Mod.refl _ _)⟩
    case round =>
      obtain ⟨i, rfl, hi, HT, HM⟩ := hrel
      by_cases hil : i < l2.length
      · have h1l : i < l1.length := by have := HL.out; omega
        have HOA : Hid (OS wr g1 _ l1) := Lib.hid (HS1.out.mod HM.out (by simp))
        have HOB : Hid (OS wr g2 _ l2) := Lib.hid (HS2.out.mod HM.out (by simp))
        obtain ⟨o1, ca, hv1, _, _, _, hA⟩ := OS.item HOA.out (by omega)
        obtain ⟨o2, cb, hv2, _, _, _, hB⟩ := OS.item HOB.out (by omega)
        injection hv1 with hx1 hx2 hx3
        injection hv2 with hy1 hy2 hy3
        subst hx1 hx3 hy1 hy3
        have HA := Lib.hid (hA i h1l)
        have HB := Lib.hid (hB i hil)
        obtain ⟨a, ha⟩ : ∃ a, l1[i] = a := ⟨_, rfl⟩
        obtain ⟨b, hb⟩ : ∃ b, l2[i] = b := ⟨_, rfl⟩
        have HTA : Hid (l1.take (i + 1) = l1.take i ++ [a]) := Lib.hid (by rw [List.take_succ_eq_append_getElem h1l, ha])
        have HTB : Hid (l2.take (i + 1) = l2.take i ++ [b]) := Lib.hid (by rw [List.take_succ_eq_append_getElem hil, hb])
        have HNE : Hid (a ≠ b → l1 ≠ l2) := Lib.hid (fun h e => by subst e; exact h (ha.symm.trans hb))
        rw [ha] at HA
        rw [hb] at HB
        clear hA hB hx2 hy2 ha hb
        have hil' : (i : Int) < (l2.length : Int) := by omega
        go_wp2_with (first | ((with_reducible refine wpList_load_op _ rfl ?hgd HA.out ?hx ?_); (case hgd => exact rfl); (case hx => exact rfl)) | ((with_reducible refine wpList_store_op (o := a) _ _ rfl ?hgd ?hx ?hy (Blk.new _ _ _) ?hold ?_); (case hgd => exact rfl); (case hx => exact rfl); (case hy => exact rfl); (case hold => exact rfl); intro w3 hv3 hm3; have hmx : Mod [] wr w3 := ((Mod.refl [] wr).alloc _).then hm3 (by simp); have HV3 := Lib.hid hv3; have HM3 := Lib.hid hmx; have HB3 : Hid (OpAt w3 g2 (o2 + i * 37) b) := Lib.hid (CellsAt.mod HB.out hmx (by simp)); clear hv3 hm3 hmx) | ((with_reducible refine wpList_load_op _ rfl ?hgd HB3.out ?hx ?_); (case hgd => exact rfl); (case hx => exact rfl)) | ((with_reducible refine wpList_store_op (o := b) _ _ rfl ?hgd ?hx ?hy (Blk.new _ _ _) ?hold ?_); (case hgd => exact rfl); (case hx => exact rfl); (case hy => exact rfl); (case hold => exact rfl); intro w4 hv4 hm4; have hmx : Mod [] w3 w4 := ((Mod.refl [] w3).alloc _).then hm4 (by simp); have HO4 : Hid (OpAt w4 wr.heap.size 0 a) := Lib.hid (CellsAt.of_blk (Blk.mod HV3.out hmx (by simp))); have HP4 : Hid (OpAt w4 w3.heap.size 0 b) := Lib.hid (CellsAt.of_blk hv4); have HM4 := Lib.hid (HM3.out.trans hmx); clear hv4 hm4 hmx) | ((with_reducible refine wpList_load_op _ rfl ?hgd HO4.out ?hx ?_); (case hgd => exact rfl); (case hx => exact rfl)) | ((with_reducible refine wpList_load_op _ rfl ?hgd HP4.out ?hx ?_); (case hgd => exact rfl); (case hx => exact rfl)))
        (first | rw [Oper.upon_enter] | skip)
        refine (same_any a b w4).mono ?_
        rintro e' w9 ⟨rfl, hm9⟩
        have HMW : Hid (Mod [] w w9) := Lib.hid (HM.out.trans (HM4.out.trans hm9))
        by_cases heq : (a == b) = true
        · rw [heq]
          have HE := Lib.hid (eq_of_beq heq)
          clear heq
          go_wp2_with fail
          go_roundw
          case rel =>
            refine ⟨i + 1, by go_num, by omega, Lib.hid ?_, HMW⟩
            rw [HTA.out, HTB.out, HT.out, HE.out]
          case measure => simp [intOf]; omega
        · rw [Bool.not_eq_true] at heq
          rw [heq]
          have HF : Hid (decide (l1 = l2) = false) := Lib.hid (decide_eq_false (HNE.out (by simpa using heq)))
          clear heq
          go_wp2_with fail
          go_ret
          exact ⟨ret_bool HF.out.symm, HMW.out⟩
      · have hie : i = l2.length := by omega
        have he : l1 = l2 := by
          have h := HT.out
          rw [hie, List.take_length, ← HL.out, List.take_length] at h
          exact h
        have HF : Hid (decide (l1 = l2) = true) := Lib.hid (decide_eq_true he)
        have hilf : ¬ ((i : Int) < (l2.length : Int)) := by omega
        clear hie he HT
        go_wp2_with fail
        go_ret
        exact ⟨ret_bool HF.out.symm, HM.out⟩
  · have hl' : ¬ ((l1.length : Int) = (l2.length : Int)) := by omega
    have HF : Hid (decide (l1 = l2) = false) := Lib.hid (decide_eq_false (fun h => hl (by rw [h])))
    go_enter Try.func36, Try.ntmps36
    go_wp2
    go_ret
    exact ⟨ret_bool HF.out.symm, Mod.refl _ _⟩
end Go.Proofs.Ytlpjeckhejbkkaa
end

section
set_option linter.unusedVariables false
set_option linter.unusedSimpArgs false
set_option maxRecDepth 20000
set_option maxHeartbeats 1600000
namespace Go.Proofs.Ytlpjeckhejbkkaa
open Go.RowKit

theorem nodeSame_any (a b : GNode) (g1 o1 g2 o2 : Nat) (pv ov pu ou : Value) (w : World) (h1 : NodR w a g1 o1 pv ov) (h2 : NodR w b g2 o2 pu ou) :
    Calls Try.prog 20 #[nodeV a.author a.clock pv ov, nodeV b.author b.clock pu ou] w fun e w' => e = .returned (.bool (nodeEq a b)) ∧ Mod [] w w' := by
  have HR1 := Lib.hid h1; clear h1
  have HR2 := Lib.hid h2; clear h2
  obtain ⟨au, cl, ps, os⟩ := a
  obtain ⟨bu, bl, qs, us⟩ := b
  dsimp only at *
  have HNE : Hid (nodeEq ⟨au, cl, ps, os⟩ ⟨bu, bl, qs, us⟩ = (decide (au = bu) && decide (cl = bl) && decide (ps = qs) && decide (os = us))) := Lib.hid rfl
  generalize nodeEq ⟨au, cl, ps, os⟩ ⟨bu, bl, qs, us⟩ = ne at *
  go_enter Try.func20, Try.ntmps20
  go_upto_region 1 with (first | ((with_reducible refine wpList_box_node _ rfl ?hgd (au := au) (cl := cl) (pv := pv) (ov := ov) ?hx ?_); (case hgd => exact rfl); (case hx => exact rfl); intro q1 w1 hv1 hm1 hq1 hl1; have HV1 := Lib.hid hv1; have HM1 := Lib.hid hm1; clear hv1 hm1) | ((with_reducible refine wpList_box_node _ rfl ?hgd (au := bu) (cl := bl) (pv := pu) (ov := ou) ?hx ?_); (case hgd => exact rfl); (case hx => exact rfl); intro q2 w2 hv2 hm2 hq2 hl2; have HT : Hid (TwoN w q1 q2 ⟨au, cl, ps, os⟩ ⟨bu, bl, qs, us⟩ g1 o1 g2 o2 pv ov pu ou w2) := Lib.hid ⟨HV1.out.mod hm2 (by simp), hv2, HR1.out.mod0 (HM1.out.trans hm2), HR2.out.mod0 (HM1.out.trans hm2), HM1.out.trans hm2⟩; clear hv2 hm2))
  clear HV1 HM1
  obtain ⟨c0, c1, c2, c3, _⟩ := HT.out.n1.open_
  obtain ⟨d0, d1, d2, d3, _⟩ := HT.out.n2.open_
  by_cases h1 : au = bu
  · subst h1
    by_cases h2 : cl = bl
    · subst h2
      rw [decide_eq_true rfl, decide_eq_true rfl] at HNE
      go_wp2_with fail
      refine (eqHashes_any ps qs g1 g2 pv pu w2 HT.out.r1.ps HT.out.r2.ps).mono ?_
      rintro e' w3 ⟨rfl, hm3⟩
      have HT3 := Lib.hid (HT.out.mod hm3)
      clear HT hm3 c0 c1 c2 c3 d0 d1 d2 d3
      obtain ⟨c0, c1, c2, c3, _⟩ := HT3.out.n1.open_
      obtain ⟨d0, d1, d2, d3, _⟩ := HT3.out.n2.open_
      cases hd : decide (ps = qs) with
      | true =>
        rw [hd] at HNE
        clear hd
        go_wp2_with fail
        refine (eqOps_any os us o1 o2 ov ou w3 HT3.out.r1.os HT3.out.r2.os).mono ?_
        rintro e' w4 ⟨rfl, hm4⟩
        have HT4 := Lib.hid (HT3.out.mod hm4)
        clear HT3 hm4 c0 c1 c2 c3 d0 d1 d2 d3
        cases hd2 : decide (os = us) with
        | true =>
          rw [hd2] at HNE
          clear hd2
          go_wp2_with fail
          go_ret
          exact ⟨ret_bool (by rw [HNE.out]; rfl), HT4.out.md⟩
        | false =>
          rw [hd2] at HNE
          clear hd2
          go_wp2_with fail
          go_ret
          exact ⟨ret_bool (by rw [HNE.out]; rfl), HT4.out.md⟩
      | false =>
        rw [hd] at HNE
        clear hd
        go_wp2_with fail
        go_ret
        exact ⟨ret_bool (by rw [HNE.out]; rfl), HT3.out.md⟩
    · have HF : Hid (ne = false) := Lib.hid (by rw [HNE.out, decide_eq_false h2]; simp)
      clear HNE
      go_wp2_with fail
      go_ret
      exact ⟨ret_bool HF.out.symm, HT.out.md⟩
  · have HF : Hid (ne = false) := Lib.hid (by rw [HNE.out, decide_eq_false h1]; simp)
    clear HNE
    go_wp2_with fail
    go_ret
    exact ⟨ret_bool HF.out.symm, HT.out.md⟩
/-! ### entries, and what the graph knows of them -/
abbrev entryL (h : GHash) (au cl : Int) (pv ov : Value) : List Value := h.cells ++ nodeL au cl pv ov
abbrev entryV (h : GHash) (au cl : Int) (pv ov : Value) : Value := .agg (entryL h au cl pv ov).toArray
abbrev vertexL (h : GHash) (cl : Int) (pv : Value) : List Value := h.cells ++ [.int .i64 cl, pv]
theorem entryL_length (h : GHash) (au cl : Int) (pv ov : Value) : (entryL h au cl pv ov).length = 36 := by simp [GHash.cells_length]
theorem vertexL_length (h : GHash) (cl : Int) (pv : Value) : (vertexL h cl pv).length = 34 := by simp [GHash.cells_length]
theorem rtEntry : RowT Try.prog 48 36 := ⟨_, Try.underlying48, rfl, by kernel_rfl⟩
def EntB (w : World) (q : Nat) (h : GHash) (au cl : Int) (pv ov : Value) : Prop := Blk w q 48 (entryL h au cl pv ov).toArray
theorem CellsAt.left {w : World} {q off : Nat} {a b : List Value} (h : CellsAt w q off (a ++ b)) : CellsAt w q off a := fun i u hu => h i u (by rw [List.getElem?_append_left (List.getElem?_eq_some_iff.1 hu).1]; exact hu)
theorem CellsAt.right {w : World} {q off n : Nat} {a b : List Value} (h : CellsAt w q off (a ++ b)) (hn : a.length = n) : CellsAt w q (off + n) b := fun i u hu => by
  rw [Nat.add_assoc]
  exact h (n + i) u (by rw [List.getElem?_append_right (by omega), hn, Nat.add_sub_cancel_left]; exact hu)
theorem EntB.parts {w : World} {q : Nat} {h : GHash} {au cl : Int} {pv ov : Value} (hb : EntB w q h au cl pv ov) : CellsAt w q 0 (entryL h au cl pv ov) ∧ HashAt w q 0 h ∧ CellsAt w q 32 (nodeL au cl pv ov) ∧
    w.cell? ⟨q, 32, none⟩ = some (.int .i64 au) ∧ w.cell? ⟨q, 33, none⟩ = some (.int .i64 cl) ∧ w.cell? ⟨q, 34, none⟩ = some pv ∧ w.cell? ⟨q, 35, none⟩ = some ov := by
  have h0 : CellsAt w q 0 (entryL h au cl pv ov) := CellsAt.of_blk hb
  have h1 := h0.right (GHash.cells_length h)
  rw [Nat.zero_add] at h1
  exact ⟨h0, h0.left, h1, h1 0 _ rfl, h1 1 _ rfl, h1 2 _ rfl, h1 3 _ rfl⟩
theorem EntB.mod {S : List Nat} {w w' : World} {q : Nat} {h : GHash} {au cl : Int} {pv ov : Value} (hb : EntB w q h au cl pv ov) (hm : Mod S w w') (hq : q ∉ S) : EntB w' q h au cl pv ov := Blk.mod hb hm hq
theorem wpList_box_entry {ops : Array Oper} {rest : List Oper} {op : Oper} {a : Act} {w : World} {Q : Exit → Act → World → Prop} (x : Operand) (ho : op.op = .box 48 x) (hgd : Region.wanted op (yielded ops a.tmps) = true) {h : GHash} {au cl : Int} {pv ov : Value} (hx : a.eval x = entryV h au cl pv ov)
    (hh : ∀ q w1, EntB w1 q h au cl pv ov → Mod [] w w1 → w.heap.size ≤ q → q < w1.heap.size → wpList Try.prog ops Q rest (a.put op.dst (.pointer (some ⟨q, 0, none⟩))) w1) : wpList Try.prog ops Q (op :: rest) a w :=
  wpList_box x ho hgd hx hh
theorem wpList_load_entry {ops : Array Oper} {rest : List Oper} {op : Oper} {a : Act} {w : World} {Q : Exit → Act → World → Prop} (x : Operand) (ho : op.op = .load 48 x) (hgd : Region.wanted op (yielded ops a.tmps) = true) {b k : Nat} {h : GHash} {au cl : Int} {pv ov : Value} (H : CellsAt w b k (entryL h au cl pv ov)) (hx : a.eval x = .pointer (some ⟨b, k, none⟩))
    (hh : wpList Try.prog ops Q rest (a.put op.dst (entryV h au cl pv ov)) w) : wpList Try.prog ops Q (op :: rest) a w :=
  wpList_load_cells rtEntry x ho hgd hx (entryL_length _ _ _ _ _) H hh
theorem rtVertex : RowT Try.prog 50 34 := ⟨_, Try.underlying50, rfl, by kernel_rfl⟩
theorem infoVertex : (Try.prog.info? 50).map (fun i => (i.zero, i.size, i.bytes)) = some (some (.agg (vertexL GHash.zero 0 (.slice none 0 0)).toArray), 34, 64) := by kernel_rfl
theorem placesVertex : ((Try.prog.fieldsOf 50).toList.mapM (fun f => (Try.prog.info? f.type).map fun i => (f.offset, i.size))) = some [(0, 32), (32, 1), (33, 1)] := by kernel_rfl
theorem built_vertex (h : GHash) (cl : Int) (A : Option Addr) (n c : Nat) : Try.prog.built 50 [(0, .agg h.cells.toArray), (1, .int .i64 cl), (2, .slice A n c)] = some (vertexL h cl (.slice A n c)).toArray := by
  obtain ⟨i, hi, hz, _, _⟩ := info_parts infoVertex
  have hp := placesVertex
  unfold Program.built
  simp only [hi, hz, Try.underlying50]
  simp only [Program.fieldsOf, Try.underlying50] at hp
  simp only [hp]
  have hl := GHash.cells_length h
  have h0 := GHash.cells_length GHash.zero
  have ez : (Value.agg (vertexL GHash.zero 0 (.slice none 0 0)).toArray).cells = (GHash.zero.cells ++ [Value.int .i64 0, .slice none 0 0]).toArray := rfl
  have eh : (Value.agg h.cells.toArray).cells.toList = h.cells := rfl
  rw [ez, fill_one 0 32 (.agg h.cells.toArray) _ (by simpa [Value.cells] using hl) (by simp [h0]) _ _ 0 rfl, eh]
  have e1 : (List.take 0 (GHash.zero.cells ++ [Value.int .i64 0, .slice none 0 0]).toArray.toList ++ h.cells ++ List.drop (0 + 32) (GHash.zero.cells ++ [Value.int .i64 0, .slice none 0 0]).toArray.toList).toArray = (h.cells ++ [Value.int .i64 0, .slice none 0 0]).toArray := by
    simp only [List.take_zero, List.nil_append, Nat.zero_add]
    rw [List.drop_append_of_le_length (by omega), List.drop_of_length_le (by omega)]
    rfl
  rw [e1, fill_one 32 1 (.int .i64 cl) _ rfl (by simp [hl]) _ _ 1 rfl]
  have e2 : (List.take 32 (h.cells ++ [Value.int .i64 0, .slice none 0 0]).toArray.toList ++ (Value.int .i64 cl).cells.toList ++ List.drop (32 + 1) (h.cells ++ [Value.int .i64 0, .slice none 0 0]).toArray.toList).toArray = (h.cells ++ [Value.int .i64 cl, .slice none 0 0]).toArray := by
    simp only [List.take_append_of_le_length (by omega : 32 ≤ h.cells.length), List.take_of_length_le (by omega : h.cells.length ≤ 32)]
    rw [List.drop_append, hl, List.drop_of_length_le (by omega)]
    simp [Value.cells]
  rw [e2, fill_one 33 1 (.slice A n c) _ rfl (by simp [hl]) _ _ 2 rfl]
  simp only [Instr.fill]
  congr 1
  apply Array.toList_inj.1
  simp only [vertexL]
  rw [List.take_append, hl, List.take_of_length_le (by omega), List.drop_append, hl, List.drop_of_length_le (by omega)]
  simp [Value.cells]
theorem run_build_vertex (h : GHash) (cl : Int) (A : Option Addr) (n c : Nat) (w : World) : (Instr.build 50 #[(0, .agg h.cells.toArray), (1, .int .i64 cl), (2, .slice A n c)]).run Try.prog w = .ok (.agg (vertexL h cl (.slice A n c)).toArray) w := run_build w _ _ _ (built_vertex h cl A n c)
theorem exec_build_vertex {op : Oper} {a : Act} {w : World} (x y z : Operand) (ho : op.op = .build 50 #[(0, x), (1, y), (2, z)]) {h : GHash} {cl : Int} {A : Option Addr} {n c : Nat} (hx : a.eval x = .agg h.cells.toArray) (hy : a.eval y = .int .i64 cl) (hz : a.eval z = .slice A n c) :
    (execOp a.eval op).run Try.prog w = .ok (.value (.agg (vertexL h cl (.slice A n c)).toArray)) w := by
  unfold execOp
  simp only [ho, hx, hy, hz, List.map_toArray, List.map_cons, List.map_nil, Sem.run_bind, run_build_vertex, Result.andThen_ok, Sem.run_pure]
theorem vertexL_one (h : GHash) (cl : Int) (pv : Value) (hp : pv.oneCell' = true) : ∀ u ∈ vertexL h cl pv, u.oneCell' = true := by
  intro u hu
  rcases List.mem_append.1 hu with hu | hu
  · exact h.one u hu
  · simp only [List.mem_cons, List.mem_nil_iff, or_false] at hu
    rcases hu with rfl | rfl
    · rfl
    · exact hp
def VerP (w : World) (h : GHash) (cl : Int) (l : List GHash) (e' : Ending) (w' : World) : Prop := ∃ v, e' = .returned (.agg (vertexL h cl v).toArray) ∧ OwnH w' v l ∧ Mod [] w w' ∧ ∀ b ∈ blks v, w.heap.size ≤ b
theorem zeroVertex : (.cells #[.int .u8 0, .int .u8 0, .int .u8 0, .int .u8 0, .int .u8 0, .int .u8 0, .int .u8 0, .int .u8 0, .int .u8 0, .int .u8 0, .int .u8 0, .int .u8 0, .int .u8 0, .int .u8 0, .int .u8 0, .int .u8 0, .int .u8 0, .int .u8 0, .int .u8 0, .int .u8 0, .int .u8 0, .int .u8 0, .int .u8 0, .int .u8 0, .int .u8 0, .int .u8 0, .int .u8 0, .int .u8 0, .int .u8 0, .int .u8 0, .int .u8 0, .int .u8 0, .int .i64 0, .slice none 0 0] 50 : Obj) = .cells (vertexL GHash.zero 0 (.slice none 0 0)).toArray 50 := rfl
theorem vertex_any (h : GHash) (n : GNode) (gp go : Nat) (pv ov : Value) (w : World) (hN : NodR w n gp go pv ov) (hz : n.parents.length ≤ 5000000000000) :
    Calls Try.prog 19 #[entryV h n.author n.clock pv ov] w (VerP w h n.clock n.parents) := by
  have HS0 := Lib.hid hN.ps; clear hN
  obtain ⟨au, cl, ps, os⟩ := n
  dsimp only at *
  go_enter Try.func19, Try.ntmps19
  go_upto_region 1 with (first | ((with_reducible refine wpList_box_entry _ rfl ?hgd (h := h) (au := au) (cl := cl) (pv := pv) (ov := ov) ?hx ?_); (case hgd => exact rfl); (case hx => exact rfl); intro q1 w1 hv1 hm1 hq1 hl1; have HV1 := Lib.hid hv1; have HM1 := Lib.hid hm1; clear hv1 hm1))
  rw [zeroVertex]
  have HB2 := Lib.hid (Blk.new w1 50 (vertexL GHash.zero 0 (.slice none 0 0)).toArray)
  have hm2 : Mod [] w1 (w1.alloc (.cells (vertexL GHash.zero 0 (.slice none 0 0)).toArray 50)) := (Mod.refl [] w1).alloc _
  have HE2 := Lib.hid (HV1.out.mod hm2 (by simp))
  have HM2 := Lib.hid (HM1.out.trans hm2)
  have HQ : Hid (q1 ≠ w1.heap.size ∧ w.heap.size ≤ w1.heap.size) := Lib.hid ⟨by omega, HM1.out.size⟩
  obtain ⟨w2, hw2⟩ : ∃ w2, w1.alloc (.cells (vertexL GHash.zero 0 (.slice none 0 0)).toArray 50) = w2 := ⟨_, rfl⟩
  obtain ⟨q2, hq2⟩ : ∃ q2, w1.heap.size = q2 := ⟨_, rfl⟩
  rw [hw2] at HB2 HE2 HM2
  rw [hq2] at HB2 HQ
  rw [hw2, hq2]
  clear hw2 hq2 hm2 HM1 HV1 hq1 hl1
  have hw0 : Mod [q2] w2 w2.drew := (Mod.refl _ w2).drew
  have HL1 : Hid (∀ W, Mod [q2] w2 W → HashAt W q1 0 h) := Lib.hid (fun W hW => (HE2.out.mod hW (by simpa using HQ.out.1)).parts.2.1)
  have HL2 : Hid (∀ W, Mod [q2] w2 W → W.cell? ⟨q1, 33, none⟩ = some (.int .i64 cl)) := Lib.hid (fun W hW => (HE2.out.mod hW (by simpa using HQ.out.1)).parts.2.2.2.2.1)
  have HL3 : Hid (∀ W, Mod [q2] w2 W → W.cell? ⟨q1, 34, none⟩ = some pv) := Lib.hid (fun W hW => (HE2.out.mod hW (by simpa using HQ.out.1)).parts.2.2.2.2.2.1)
  have HS2 : Hid (HS w2.drew gp pv ps) := Lib.hid ((HS0.out.mod HM2.out (by simp)).mod (Mod.refl [] w2).drew (by simp))
  have HSZ : Hid (w.heap.size ≤ w2.heap.size ∧ q2 < w2.heap.size) := Lib.hid ⟨HM2.out.size, HB2.out.lt⟩
  refine wp_regionE (Mod [q2]) (by kernel_rfl) ?_
  simp only [List.size_toArray, List.length_cons, List.length_nil, Nat.zero_add, Nat.reduceAdd]
  refine wpAnyE_takeL (preMod _) 0 (v := ?_) rfl (by kernel_rfl) (by kernel_rfl) (by kernel_rfl) (fun _ _ _ h => h) (Or.inl ⟨by rfl, ?_⟩) ?_
  rotate_left; (intro W hW; (try dsimp only at hW); go_simp; try with_reducible rfl)
  (try simp only [Act.put, List.setIfInBounds_toArray, List.set_cons_zero, List.set_cons_succ])
  refine wpAnyE_takeL (preMod _) 1 (v := ?_) rfl (by kernel_rfl) (by kernel_rfl) (by kernel_rfl) (fun _ _ _ h => h) (Or.inl ⟨by rfl, ?_⟩) ?_
  rotate_left; (intro W hW; (try dsimp only at hW); refine (run_load_cells rtHash (.tmp 3) (by rfl) (by rfl) (GHash.cells_length _) (HL1.out W (hw0.trans hW))).trans ?_; try with_reducible rfl)
  (try simp only [Act.put, List.setIfInBounds_toArray, List.set_cons_zero, List.set_cons_succ])
  refine wpAnyE_takeL (preMod _) 2 (v := ?_) rfl (by kernel_rfl) (by kernel_rfl) (by kernel_rfl) (fun _ _ _ h => h) (Or.inl ⟨by rfl, ?_⟩) ?_
  rotate_left; (intro W hW; (try dsimp only at hW); go_simp; try with_reducible rfl)
  (try simp only [Act.put, List.setIfInBounds_toArray, List.set_cons_zero, List.set_cons_succ])
  refine wpAnyE_takeL (preMod _) 3 (v := ?_) rfl (by kernel_rfl) (by kernel_rfl) (by kernel_rfl) (fun _ _ _ h => h) (Or.inl ⟨by rfl, ?_⟩) ?_
  rotate_left; (intro W hW; (try dsimp only at hW); go_simp; try with_reducible rfl)
  (try simp only [Act.put, List.setIfInBounds_toArray, List.set_cons_zero, List.set_cons_succ])
  refine wpAnyE_takeL (preMod _) 4 (v := ?_) rfl (by kernel_rfl) (by kernel_rfl) (by kernel_rfl) (fun _ _ _ h => h) (Or.inl ⟨by rfl, ?_⟩) ?_
  rotate_left; (intro W hW; (try dsimp only at hW); (have hcw := HL2.out W (hw0.trans hW); go_simp); try with_reducible rfl)
  (try simp only [Act.put, List.setIfInBounds_toArray, List.set_cons_zero, List.set_cons_succ])
  refine wpAnyE_takeL (preMod _) 5 (v := ?_) rfl (by kernel_rfl) (by kernel_rfl) (by kernel_rfl) (fun _ _ _ h => h) (Or.inl ⟨by rfl, ?_⟩) ?_
  rotate_left; (intro W hW; (try dsimp only at hW); go_simp; try with_reducible rfl)
  (try simp only [Act.put, List.setIfInBounds_toArray, List.set_cons_zero, List.set_cons_succ])
  refine wpAnyE_takeL (preMod _) 6 (v := ?_) rfl (by kernel_rfl) (by kernel_rfl) (by kernel_rfl) (fun _ _ _ h => h) (Or.inl ⟨by rfl, ?_⟩) ?_
  rotate_left; (intro W hW; (try dsimp only at hW); go_simp; try with_reducible rfl)
  (try simp only [Act.put, List.setIfInBounds_toArray, List.set_cons_zero, List.set_cons_succ])
  refine wpAnyE_takeL (preMod _) 7 (v := ?_) rfl (by kernel_rfl) (by kernel_rfl) (by kernel_rfl) (fun _ _ _ h => h) (Or.inl ⟨by rfl, ?_⟩) ?_
  rotate_left; (intro W hW; (try dsimp only at hW); (have hcw := HL3.out W (hw0.trans hW); go_simp); try with_reducible rfl)
  (try simp only [Act.put, List.setIfInBounds_toArray, List.set_cons_zero, List.set_cons_succ])
  refine wpAnyE_ready (rs := [8]) (by kernel_rfl) (by simp) ?_
  refine AllReadyE.consL rfl (fun K hK => ?_) AllReadyE.nil
  rw [if_pos (by rfl)]
  refine opwp_of_list rfl (fun Q' hQ' => ?_)
  refine wpList_append_hashes rfl _ _ (by rfl) (OwnH.nil _) (by rfl) HS2.out (by rfl) ?_ (by simp; omega)
  intro A3 n3 c3 w3 hown3 hn3 hm3 hf3
  refine hQ' _ _ ?_
  have hm3' : Mod [] w2.drew w3 := hm3.mono (by simp [blks, Value.ownBlock])
  have hmE : Mod [q2] w2.drew w3 := hm3'.mono (by simp)
  have HO3 : Hid (OwnH w3 (.slice A3 n3 c3) ps) := Lib.hid (by simpa using hown3)
  have HM3 : Hid (Mod [] w2 w3) := Lib.hid (Mod.trans (Mod.refl [] w2).drew hm3')
  have HF3 : Hid (∀ b ∈ blks (.slice A3 n3 c3), b = w2.heap.size) := Lib.hid (fun b hb => by rcases hf3.out b hb with h1 | h1; (simp [blks, Value.ownBlock] at h1); simpa using h1)
  clear hown3 hm3 hf3 hn3 hm3'
  refine hK.out _ _ (by first | exact hmE | exact Mod.refl _ _ | exact (Mod.refl _ _).alloc _) ?_
  clear hK
  (try simp only [Act.put, List.setIfInBounds_toArray, List.set_cons_zero, List.set_cons_succ])
  refine wpAnyE_takeL (preMod _) 9 (v := ?_) rfl (by kernel_rfl) (by kernel_rfl) (by kernel_rfl) (fun _ _ _ h => h) (Or.inl ⟨by rfl, ?_⟩) ?_
  rotate_left; (intro W hW; (try dsimp only at hW); refine (exec_build_vertex (.tmp 4) (.tmp 7) (.tmp 11) (by rfl) (by rfl) (by rfl) (by rfl)).trans ?_; try with_reducible rfl)
  (try simp only [Act.put, List.setIfInBounds_toArray, List.set_cons_zero, List.set_cons_succ])
  refine wpAnyE_ready (rs := [10]) (by kernel_rfl) (by simp) ?_
  refine AllReadyE.consL rfl (fun K hK => ?_) AllReadyE.nil
  rw [if_pos (by rfl)]
  refine opwp_of_list rfl (fun Q' hQ' => ?_)
  refine wpList_store_blk rtVertex _ _ rfl (by rfl) (by rfl) (cells := vertexL h cl (.slice A3 n3 c3)) ?hy (HB2.out.mod HM3.out (by simp)) (vertexL_length _ _ _) (by simp [GHash.cells_length]) (vertexL_one _ _ _ rfl) ?_
  case hy => rfl
  intro w4 hb4 hm4
  refine hQ' _ _ ?_
  have hmE : Mod [q2] w3 w4 := hm4
  refine hK.out _ _ (by first | exact hmE | exact Mod.refl _ _ | exact (Mod.refl _ _).alloc _) ?_
  clear hK
  (try simp only [Act.put, List.setIfInBounds_toArray, List.set_cons_zero, List.set_cons_succ])
  refine wpAnyE_done (by kernel_rfl) ?_ _
  go_wp2_with fail
  refine bodyPost_ret (results_row rtVertex rfl rfl hb4 (by simp [GHash.cells_length])) rfl ?_
  refine ⟨.slice A3 n3 c3, rfl, HO3.out.mod hm4 (fun b hb => ?_), (HM2.out.trans HM3.out).then hm4 (by have := HQ.out; simp; omega), fun b hb => ?_⟩
  · have h1 := HF3.out b hb
    have h2 := HSZ.out
    simp
    omega
  · have h1 := HF3.out b hb
    have h2 := HSZ.out
    omega
theorem nodeSames_any (ha hb : GHash) (a b : GNode) (g1 o1 g2 o2 : Nat) (pv ov pu ou : Value) (w : World) (h1 : NodR w a g1 o1 pv ov) (h2 : NodR w b g2 o2 pu ou) (hz : a.parents.length ≤ 5000000000000) :
    Calls Try.prog 6 #[entryV ha a.author a.clock pv ov, entryV hb b.author b.clock pu ou] w fun e w' => e = .returned (.bool true) ∧ Mod [] w w' := by
  have HR1 := Lib.hid h1; clear h1
  have HR2 := Lib.hid h2; clear h2
  go_enter Try.func6, Try.ntmps6
  go_wp2_with (first | ((with_reducible refine wpList_box_entry _ rfl ?hgd (h := ha) (au := a.author) (cl := a.clock) (pv := pv) (ov := ov) ?hx ?_); (case hgd => exact rfl); (case hx => exact rfl); intro q1 w1 hv1 hm1 hq1 hl1; have HV1 := Lib.hid hv1; have HM1 := Lib.hid hm1; clear hv1 hm1) | ((with_reducible refine wpList_box_entry _ rfl ?hgd (h := hb) (au := b.author) (cl := b.clock) (pv := pu) (ov := ou) ?hx ?_); (case hgd => exact rfl); (case hx => exact rfl); intro q2 w2 hv2 hm2 hq2 hl2; have HA2 := Lib.hid (HV1.out.mod hm2 (by simp)); have HB2 := Lib.hid hv2; have HM2 := Lib.hid (HM1.out.trans hm2); clear hv2 hm2 HV1 HM1))
  refine (awake_any _).mono ?_
  rintro e' w3 ⟨rfl, hm3⟩
  have HA3 := Lib.hid (HA2.out.mod hm3 (by simp))
  have HB3 := Lib.hid (HB2.out.mod hm3 (by simp))
  have HM3 := Lib.hid (HM2.out.trans hm3)
  have HC3 := Lib.hid HA3.out.parts.1
  clear hm3 HA2 HB2 HM2
  go_wp2_with ((with_reducible refine wpList_load_entry _ rfl ?hgd HC3.out ?hx ?_); (case hgd => exact rfl); (case hx => exact rfl))
  refine (vertex_any ha a g1 o1 pv ov w3 (HR1.out.mod0 HM3.out) hz).mono ?_
  rintro e' w4 ⟨v4, rfl, hown4, hm4, _⟩
  obtain ⟨A4, c4, rfl, _, _⟩ := hown4.val
  have HO4 := Lib.hid hown4
  have HA4 := Lib.hid (HA3.out.mod hm4 (by simp))
  have HB4 := Lib.hid (HB3.out.mod hm4 (by simp))
  have HM4 := Lib.hid (HM3.out.trans hm4)
  clear hown4 hm4 HA3 HB3 HM3 HC3
  go_upto_region 4 with ((with_reducible refine wpList_store_blk rtVertex _ _ rfl ?hgd ?hx ?hy (Blk.new _ _ _) (vertexL_length ha a.clock (.slice A4 a.parents.length c4)) ?hold (vertexL_one _ _ _ rfl) ?_); (case hgd => exact rfl); (case hx => exact rfl); (case hy => exact rfl); (case hold => exact rfl); intro w5 hb5 hm5; have hmx : Mod [] w4 w5 := ((Mod.refl [] w4).alloc _).then hm5 (by simp); have HV5 := Lib.hid hb5; have HO5 := Lib.hid (HO4.out.mod hmx (by simp)); have HA5 := Lib.hid (HA4.out.mod hmx (by simp)); have HB5 := Lib.hid (HB4.out.mod hmx (by simp)); have HM5 := Lib.hid (HM4.out.trans hmx); clear hb5 hm5 hmx)
  obtain ⟨qv, hqv⟩ : ∃ qv, w4.heap.size = qv := ⟨_, rfl⟩
  rw [hqv] at HV5
  rw [hqv]
  clear hqv HO4 HA4 HB4 HM4
  have HSA : Hid (∀ W, Mod [] w5 W → Calls Try.prog 20 #[nodeV a.author a.clock pv ov, nodeV b.author b.clock pu ou] W fun e w' => e = .returned (.bool (nodeEq a b)) ∧ Mod [] W w') := Lib.hid (fun W hW => nodeSame_any a b g1 o1 g2 o2 pv ov pu ou W (HR1.out.mod0 (HM5.out.trans hW)) (HR2.out.mod0 (HM5.out.trans hW)))
  have HSR : Hid (∀ W, Mod [] w5 W → Calls Try.prog 13 #[nodeV a.author a.clock pv ov, nodeV b.author b.clock pu ou] W fun e w' => e = .returned (.bool (nodeEq a b)) ∧ Mod [] W w') := Lib.hid (fun W hW => refNodeSame_any a b g1 o1 g2 o2 pv ov pu ou W (HR1.out.mod0 (HM5.out.trans hW)) (HR2.out.mod0 (HM5.out.trans hW)))
  have HSB : Hid (∀ W, Mod [] w5 W → Calls Try.prog 20 #[nodeV b.author b.clock pu ou, nodeV b.author b.clock pu ou] W fun e w' => e = .returned (.bool true) ∧ Mod [] W w') := Lib.hid (fun W hW => by
    have h := nodeSame_any b b g2 o2 g2 o2 pu ou pu ou W (HR2.out.mod0 (HM5.out.trans hW)) (HR2.out.mod0 (HM5.out.trans hW))
    rw [nodeEq_true rfl rfl rfl rfl] at h
    exact h)
  have HEH : Hid (∀ W, Mod [] w5 W → Calls Try.prog 21 #[.slice A4 a.parents.length c4, pv] W fun e w' => e = .returned (.bool true) ∧ Mod [] W w') := Lib.hid (fun W hW => by
    obtain ⟨gx, hgx, _⟩ := (HO5.out.mod hW (by simp)).hs
    have h := refEqHashes_any a.parents a.parents gx g1 _ pv W hgx (HR1.out.mod0 (HM5.out.trans hW)).ps
    rw [decide_eq_true rfl] at h
    exact h)
  have HA : Hid (∀ W, Mod [] w5 W → CellsAt W q1 32 (nodeL a.author a.clock pv ov)) := Lib.hid (fun W hW => (HA5.out.mod hW (by simp)).parts.2.2.1)
  have HB : Hid (∀ W, Mod [] w5 W → CellsAt W q2 32 (nodeL b.author b.clock pu ou)) := Lib.hid (fun W hW => (HB5.out.mod hW (by simp)).parts.2.2.1)
  have HH1 : Hid (∀ W, Mod [] w5 W → HashAt W q1 0 ha) := Lib.hid (fun W hW => (HA5.out.mod hW (by simp)).parts.2.1)
  have HC33 : Hid (∀ W, Mod [] w5 W → W.cell? ⟨q1, 33, none⟩ = some (.int .i64 a.clock)) := Lib.hid (fun W hW => (HA5.out.mod hW (by simp)).parts.2.2.2.2.1)
  have HC34 : Hid (∀ W, Mod [] w5 W → W.cell? ⟨q1, 34, none⟩ = some pv) := Lib.hid (fun W hW => (HA5.out.mod hW (by simp)).parts.2.2.2.2.2.1)
  have HV : Hid (∀ W, Mod [] w5 W → CellsAt W qv 0 (vertexL ha a.clock (.slice A4 a.parents.length c4))) := Lib.hid (fun W hW => CellsAt.of_blk (HV5.out.mod hW (by simp)))
  have HHV : Hid (∀ W, Mod [] w5 W → HashAt W qv 0 ha) := Lib.hid (fun W hW => (HV.out W hW).left)
  have HV32 : Hid (∀ W, Mod [] w5 W → W.cell? ⟨qv, 32, none⟩ = some (.int .i64 a.clock)) := Lib.hid (fun W hW => ((HV.out W hW).right (GHash.cells_length ha)) 0 _ rfl)
  have HV33 : Hid (∀ W, Mod [] w5 W → W.cell? ⟨qv, 33, none⟩ = some (.slice A4 a.parents.length c4)) := Lib.hid (fun W hW => ((HV.out W hW).right (GHash.cells_length ha)) 1 _ rfl)
  have HF : Hid (Mod [] w5 w5.drew) := Lib.hid (Mod.refl _ w5).drew
  clear HV5 HA5 HB5 HO5
  generalize a.author = au at *
  generalize a.clock = cl at *
  generalize b.author = bu at *
  generalize b.clock = bl at *
  refine wp_regionE (Mod []) (by kernel_rfl) ?_
  simp only [List.size_toArray, List.length_cons, List.length_nil, Nat.zero_add, Nat.reduceAdd]
  refine wpAnyE_takeL (preMod _) 0 (v := ?_) rfl (by kernel_rfl) (by kernel_rfl) (by kernel_rfl) (fun _ _ _ h => h) (Or.inl ⟨by rfl, ?_⟩) ?_
  rotate_left; (intro W hW; (try dsimp only at hW); go_simp; try with_reducible rfl)
  (try simp only [Act.put, List.setIfInBounds_toArray, List.set_cons_zero, List.set_cons_succ])
  refine wpAnyE_takeL (preMod _) 1 (v := ?_) rfl (by kernel_rfl) (by kernel_rfl) (by kernel_rfl) (fun _ _ _ h => h) (Or.inl ⟨by rfl, ?_⟩) ?_
  rotate_left; (intro W hW; (try dsimp only at hW); refine (run_load_cells rtNode (.tmp 10) (by rfl) (by rfl) rfl (HA.out W (HF.out.trans hW))).trans ?_; try with_reducible rfl)
  (try simp only [Act.put, List.setIfInBounds_toArray, List.set_cons_zero, List.set_cons_succ])
  refine wpAnyE_takeL (preMod _) 2 (v := ?_) rfl (by kernel_rfl) (by kernel_rfl) (by kernel_rfl) (fun _ _ _ h => h) (Or.inl ⟨by rfl, ?_⟩) ?_
  rotate_left; (intro W hW; (try dsimp only at hW); go_simp; try with_reducible rfl)
  (try simp only [Act.put, List.setIfInBounds_toArray, List.set_cons_zero, List.set_cons_succ])
  refine wpAnyE_takeL (preMod _) 3 (v := ?_) rfl (by kernel_rfl) (by kernel_rfl) (by kernel_rfl) (fun _ _ _ h => h) (Or.inl ⟨by rfl, ?_⟩) ?_
  rotate_left; (intro W hW; (try dsimp only at hW); refine (run_load_cells rtNode (.tmp 12) (by rfl) (by rfl) rfl (HB.out W (HF.out.trans hW))).trans ?_; try with_reducible rfl)
  (try simp only [Act.put, List.setIfInBounds_toArray, List.set_cons_zero, List.set_cons_succ])
  refine wpAnyE_takeL (preMod _) 5 (v := ?_) rfl (by kernel_rfl) (by kernel_rfl) (by kernel_rfl) (fun _ _ _ h => h) (Or.inl ⟨by rfl, ?_⟩) ?_
  rotate_left; (intro W hW; (try dsimp only at hW); go_simp; try with_reducible rfl)
  (try simp only [Act.put, List.setIfInBounds_toArray, List.set_cons_zero, List.set_cons_succ])
  refine wpAnyE_takeL (preMod _) 6 (v := ?_) rfl (by kernel_rfl) (by kernel_rfl) (by kernel_rfl) (fun _ _ _ h => h) (Or.inl ⟨by rfl, ?_⟩) ?_
  rotate_left; (intro W hW; (try dsimp only at hW); refine (run_load_cells rtNode (.tmp 15) (by rfl) (by rfl) rfl (HA.out W (HF.out.trans hW))).trans ?_; try with_reducible rfl)
  (try simp only [Act.put, List.setIfInBounds_toArray, List.set_cons_zero, List.set_cons_succ])
  refine wpAnyE_takeL (preMod _) 7 (v := ?_) rfl (by kernel_rfl) (by kernel_rfl) (by kernel_rfl) (fun _ _ _ h => h) (Or.inl ⟨by rfl, ?_⟩) ?_
  rotate_left; (intro W hW; (try dsimp only at hW); go_simp; try with_reducible rfl)
  (try simp only [Act.put, List.setIfInBounds_toArray, List.set_cons_zero, List.set_cons_succ])
  refine wpAnyE_takeL (preMod _) 8 (v := ?_) rfl (by kernel_rfl) (by kernel_rfl) (by kernel_rfl) (fun _ _ _ h => h) (Or.inl ⟨by rfl, ?_⟩) ?_
  rotate_left; (intro W hW; (try dsimp only at hW); refine (run_load_cells rtNode (.tmp 17) (by rfl) (by rfl) rfl (HB.out W (HF.out.trans hW))).trans ?_; try with_reducible rfl)
  (try simp only [Act.put, List.setIfInBounds_toArray, List.set_cons_zero, List.set_cons_succ])
  refine wpAnyE_ready (rs := [4]) (by kernel_rfl) (by simp) ?_
  refine AllReadyE.consL rfl (fun K hK => ?_) AllReadyE.nil
  rw [if_pos (by rfl)]
  go_simp
  go_at_call 20
  refine (HSA.out _ HF.out).mono ?_
  rintro e' w6 ⟨rfl, hm6⟩
  have hmE := hm6
  have HFnew := Lib.hid (HF.out.trans hm6); clear HF; have HF := HFnew; clear HFnew
  go_wp2_with fail
  refine hK.out _ _ (by first | exact hmE | exact Mod.refl _ _ | exact (Mod.refl _ _).alloc _) ?_
  clear hK
  (try simp only [Act.put, List.setIfInBounds_toArray, List.set_cons_zero, List.set_cons_succ])
  refine wpAnyE_ready (rs := [9]) (by kernel_rfl) (by simp) ?_
  refine AllReadyE.consL rfl (fun K hK => ?_) AllReadyE.nil
  rw [if_pos (by rfl)]
  go_simp
  go_at_call 13
  refine (HSR.out _ HF.out).mono ?_
  rintro e' w7 ⟨rfl, hm7⟩
  have hmE := hm7
  have HFnew := Lib.hid (HF.out.trans hm7); clear HF; have HF := HFnew; clear HFnew
  go_wp2_with fail
  refine hK.out _ _ (by first | exact hmE | exact Mod.refl _ _ | exact (Mod.refl _ _).alloc _) ?_
  clear hK
  (try simp only [Act.put, List.setIfInBounds_toArray, List.set_cons_zero, List.set_cons_succ])
  refine wpAnyE_takeL (preMod _) 10 (v := ?_) rfl (by kernel_rfl) (by kernel_rfl) (by kernel_rfl) (fun _ _ _ h => h) (Or.inl ⟨by rfl, ?_⟩) ?_
  rotate_left; (intro W hW; (try dsimp only at hW); go_simp; try with_reducible rfl)
  (try simp only [Act.put, List.setIfInBounds_toArray, List.set_cons_zero, List.set_cons_succ])
  refine wpAnyE_takeL (preMod _) 11 (v := ?_) rfl (by kernel_rfl) (by kernel_rfl) (by kernel_rfl) (fun _ _ _ h => h) (Or.inl ⟨by rfl, ?_⟩) ?_
  rotate_left; (intro W hW; (try dsimp only at hW); go_simp; try with_reducible rfl)
  (try simp only [Act.put, List.setIfInBounds_toArray, List.set_cons_zero, List.set_cons_succ])
  refine wpAnyE_takeL (preMod _) 12 (v := ?_) rfl (by kernel_rfl) (by kernel_rfl) (by kernel_rfl) (fun _ _ _ h => h) (Or.inl ⟨by rfl, ?_⟩) ?_
  rotate_left; (intro W hW; (try dsimp only at hW); go_simp; try with_reducible rfl)
  (try simp only [Act.put, List.setIfInBounds_toArray, List.set_cons_zero, List.set_cons_succ])
  refine wpAnyE_takeL (preMod _) 13 (v := ?_) rfl (by kernel_rfl) (by kernel_rfl) (by kernel_rfl) (fun _ _ _ h => h) (Or.inl ⟨by rfl, ?_⟩) ?_
  rotate_left; (intro W hW; (try dsimp only at hW); refine (run_load_cells rtNode (.tmp 22) (by rfl) (by rfl) rfl (HB.out W (HF.out.trans hW))).trans ?_; try with_reducible rfl)
  (try simp only [Act.put, List.setIfInBounds_toArray, List.set_cons_zero, List.set_cons_succ])
  refine wpAnyE_takeL (preMod _) 14 (v := ?_) rfl (by kernel_rfl) (by kernel_rfl) (by kernel_rfl) (fun _ _ _ h => h) (Or.inl ⟨by rfl, ?_⟩) ?_
  rotate_left; (intro W hW; (try dsimp only at hW); go_simp; try with_reducible rfl)
  (try simp only [Act.put, List.setIfInBounds_toArray, List.set_cons_zero, List.set_cons_succ])
  refine wpAnyE_takeL (preMod _) 15 (v := ?_) rfl (by kernel_rfl) (by kernel_rfl) (by kernel_rfl) (fun _ _ _ h => h) (Or.inl ⟨by rfl, ?_⟩) ?_
  rotate_left; (intro W hW; (try dsimp only at hW); refine (run_load_cells rtNode (.tmp 24) (by rfl) (by rfl) rfl (HB.out W (HF.out.trans hW))).trans ?_; try with_reducible rfl)
  (try simp only [Act.put, List.setIfInBounds_toArray, List.set_cons_zero, List.set_cons_succ])
  refine wpAnyE_ready (rs := [16]) (by kernel_rfl) (by simp) ?_
  refine AllReadyE.consL rfl (fun K hK => ?_) AllReadyE.nil
  rw [if_pos (by rfl)]
  go_simp
  go_at_call 20
  refine (HSB.out _ HF.out).mono ?_
  rintro e' w8 ⟨rfl, hm8⟩
  have hmE := hm8
  have HFnew := Lib.hid (HF.out.trans hm8); clear HF; have HF := HFnew; clear HFnew
  go_wp2_with fail
  refine hK.out _ _ (by first | exact hmE | exact Mod.refl _ _ | exact (Mod.refl _ _).alloc _) ?_
  clear hK
  (try simp only [Act.put, List.setIfInBounds_toArray, List.set_cons_zero, List.set_cons_succ])
  refine wpAnyE_takeL (preMod _) 17 (v := ?_) rfl (by kernel_rfl) (by kernel_rfl) (by kernel_rfl) (fun _ _ _ h => h) (Or.inl ⟨by rfl, ?_⟩) ?_
  rotate_left; (intro W hW; (try dsimp only at hW); go_simp; try with_reducible rfl)
  (try simp only [Act.put, List.setIfInBounds_toArray, List.set_cons_zero, List.set_cons_succ])
  refine wpAnyE_takeL (preMod _) 18 (v := ?_) rfl (by kernel_rfl) (by kernel_rfl) (by kernel_rfl) (fun _ _ _ h => h) (Or.inl ⟨by rfl, ?_⟩) ?_
  rotate_left; (intro W hW; (try dsimp only at hW); go_simp; try with_reducible rfl)
  (try simp only [Act.put, List.setIfInBounds_toArray, List.set_cons_zero, List.set_cons_succ])
  refine wpAnyE_takeL (preMod _) 19 (v := ?_) rfl (by kernel_rfl) (by kernel_rfl) (by kernel_rfl) (fun _ _ _ h => h) (Or.inl ⟨by rfl, ?_⟩) ?_
  rotate_left; (intro W hW; (try dsimp only at hW); go_simp; try with_reducible rfl)
  (try simp only [Act.put, List.setIfInBounds_toArray, List.set_cons_zero, List.set_cons_succ])
  refine wpAnyE_takeL (preMod _) 20 (v := ?_) rfl (by kernel_rfl) (by kernel_rfl) (by kernel_rfl) (fun _ _ _ h => h) (Or.inl ⟨by rfl, ?_⟩) ?_
  rotate_left; (intro W hW; (try dsimp only at hW); refine (run_load_cells rtHash (.tmp 29) (by rfl) (by rfl) (GHash.cells_length _) (HHV.out W (HF.out.trans hW))).trans ?_; change Result.ok (Next.value (GHash.val ha)) W = _; try with_reducible rfl)
  (try simp only [Act.put, List.setIfInBounds_toArray, List.set_cons_zero, List.set_cons_succ])
  refine wpAnyE_takeL (preMod _) 21 (v := ?_) rfl (by kernel_rfl) (by kernel_rfl) (by kernel_rfl) (fun _ _ _ h => h) (Or.inl ⟨by rfl, ?_⟩) ?_
  rotate_left; (intro W hW; (try dsimp only at hW); go_simp; try with_reducible rfl)
  (try simp only [Act.put, List.setIfInBounds_toArray, List.set_cons_zero, List.set_cons_succ])
  refine wpAnyE_takeL (preMod _) 22 (v := ?_) rfl (by kernel_rfl) (by kernel_rfl) (by kernel_rfl) (fun _ _ _ h => h) (Or.inl ⟨by rfl, ?_⟩) ?_
  rotate_left; (intro W hW; (try dsimp only at hW); refine (run_load_cells rtHash (.tmp 31) (by rfl) (by rfl) (GHash.cells_length _) (HH1.out W (HF.out.trans hW))).trans ?_; change Result.ok (Next.value (GHash.val ha)) W = _; try with_reducible rfl)
  (try simp only [Act.put, List.setIfInBounds_toArray, List.set_cons_zero, List.set_cons_succ])
  refine wpAnyE_takeL (preMod _) 23 (v := ?_) rfl (by kernel_rfl) (by kernel_rfl) (by kernel_rfl) (fun _ _ _ h => h) (Or.inl ⟨by rfl, ?_⟩) ?_
  rotate_left; (intro W hW; (try dsimp only at hW); go_simp; try with_reducible rfl)
  (try simp only [Act.put, List.setIfInBounds_toArray, List.set_cons_zero, List.set_cons_succ])
  refine wpAnyE_takeL (preMod _) 24 (v := ?_) rfl (by kernel_rfl) (by kernel_rfl) (by kernel_rfl) (fun _ _ _ h => h) (Or.inl ⟨by rfl, ?_⟩) ?_
  rotate_left; (intro W hW; (try dsimp only at hW); go_simp; try with_reducible rfl)
  (try simp only [Act.put, List.setIfInBounds_toArray, List.set_cons_zero, List.set_cons_succ])
  refine wpAnyE_takeL (preMod _) 25 (v := ?_) rfl (by kernel_rfl) (by kernel_rfl) (by kernel_rfl) (fun _ _ _ h => h) (Or.inl ⟨by rfl, ?_⟩) ?_
  rotate_left; (intro W hW; (try dsimp only at hW); go_simp; try with_reducible rfl)
  (try simp only [Act.put, List.setIfInBounds_toArray, List.set_cons_zero, List.set_cons_succ])
  refine wpAnyE_takeL (preMod _) 26 (v := ?_) rfl (by kernel_rfl) (by kernel_rfl) (by kernel_rfl) (fun _ _ _ h => h) (Or.inl ⟨by rfl, ?_⟩) ?_
  rotate_left; (intro W hW; (try dsimp only at hW); go_simp; try with_reducible rfl)
  (try simp only [Act.put, List.setIfInBounds_toArray, List.set_cons_zero, List.set_cons_succ])
  refine wpAnyE_takeL (preMod _) 27 (v := ?_) rfl (by kernel_rfl) (by kernel_rfl) (by kernel_rfl) (fun _ _ _ h => h) (Or.inl ⟨by rfl, ?_⟩) ?_
  rotate_left; (intro W hW; (try dsimp only at hW); (have hcw := HV32.out W (HF.out.trans hW); go_simp); try with_reducible rfl)
  (try simp only [Act.put, List.setIfInBounds_toArray, List.set_cons_zero, List.set_cons_succ])
  refine wpAnyE_takeL (preMod _) 28 (v := ?_) rfl (by kernel_rfl) (by kernel_rfl) (by kernel_rfl) (fun _ _ _ h => h) (Or.inl ⟨by rfl, ?_⟩) ?_
  rotate_left; (intro W hW; (try dsimp only at hW); go_simp; try with_reducible rfl)
  (try simp only [Act.put, List.setIfInBounds_toArray, List.set_cons_zero, List.set_cons_succ])
  refine wpAnyE_takeL (preMod _) 29 (v := ?_) rfl (by kernel_rfl) (by kernel_rfl) (by kernel_rfl) (fun _ _ _ h => h) (Or.inl ⟨by rfl, ?_⟩) ?_
  rotate_left; (intro W hW; (try dsimp only at hW); go_simp; try with_reducible rfl)
  (try simp only [Act.put, List.setIfInBounds_toArray, List.set_cons_zero, List.set_cons_succ])
  refine wpAnyE_takeL (preMod _) 30 (v := ?_) rfl (by kernel_rfl) (by kernel_rfl) (by kernel_rfl) (fun _ _ _ h => h) (Or.inl ⟨by rfl, ?_⟩) ?_
  rotate_left; (intro W hW; (try dsimp only at hW); (have hcw := HC33.out W (HF.out.trans hW); go_simp); try with_reducible rfl)
  (try simp only [Act.put, List.setIfInBounds_toArray, List.set_cons_zero, List.set_cons_succ])
  refine wpAnyE_takeL (preMod _) 31 (v := ?_) rfl (by kernel_rfl) (by kernel_rfl) (by kernel_rfl) (fun _ _ _ h => h) (Or.inl ⟨by rfl, ?_⟩) ?_
  rotate_left; (intro W hW; (try dsimp only at hW); go_simp; try with_reducible rfl)
  (try simp only [Act.put, List.setIfInBounds_toArray, List.set_cons_zero, List.set_cons_succ])
  refine wpAnyE_takeL (preMod _) 32 (v := ?_) rfl (by kernel_rfl) (by kernel_rfl) (by kernel_rfl) (fun _ _ _ h => h) (Or.inl ⟨by rfl, ?_⟩) ?_
  rotate_left; (intro W hW; (try dsimp only at hW); go_simp; try with_reducible rfl)
  (try simp only [Act.put, List.setIfInBounds_toArray, List.set_cons_zero, List.set_cons_succ])
  refine wpAnyE_takeL (preMod _) 33 (v := ?_) rfl (by kernel_rfl) (by kernel_rfl) (by kernel_rfl) (fun _ _ _ h => h) (Or.inl ⟨by rfl, ?_⟩) ?_
  rotate_left; (intro W hW; (try dsimp only at hW); go_simp; try with_reducible rfl)
  (try simp only [Act.put, List.setIfInBounds_toArray, List.set_cons_zero, List.set_cons_succ])
  refine wpAnyE_takeL (preMod _) 34 (v := ?_) rfl (by kernel_rfl) (by kernel_rfl) (by kernel_rfl) (fun _ _ _ h => h) (Or.inl ⟨by rfl, ?_⟩) ?_
  rotate_left; (intro W hW; (try dsimp only at hW); go_simp; try with_reducible rfl)
  (try simp only [Act.put, List.setIfInBounds_toArray, List.set_cons_zero, List.set_cons_succ])
  refine wpAnyE_takeL (preMod _) 35 (v := ?_) rfl (by kernel_rfl) (by kernel_rfl) (by kernel_rfl) (fun _ _ _ h => h) (Or.inl ⟨by rfl, ?_⟩) ?_
  rotate_left; (intro W hW; (try dsimp only at hW); (have hcw := HV33.out W (HF.out.trans hW); go_simp); try with_reducible rfl)
  (try simp only [Act.put, List.setIfInBounds_toArray, List.set_cons_zero, List.set_cons_succ])
  refine wpAnyE_takeL (preMod _) 36 (v := ?_) rfl (by kernel_rfl) (by kernel_rfl) (by kernel_rfl) (fun _ _ _ h => h) (Or.inl ⟨by rfl, ?_⟩) ?_
  rotate_left; (intro W hW; (try dsimp only at hW); go_simp; try with_reducible rfl)
  (try simp only [Act.put, List.setIfInBounds_toArray, List.set_cons_zero, List.set_cons_succ])
  refine wpAnyE_takeL (preMod _) 37 (v := ?_) rfl (by kernel_rfl) (by kernel_rfl) (by kernel_rfl) (fun _ _ _ h => h) (Or.inl ⟨by rfl, ?_⟩) ?_
  rotate_left; (intro W hW; (try dsimp only at hW); go_simp; try with_reducible rfl)
  (try simp only [Act.put, List.setIfInBounds_toArray, List.set_cons_zero, List.set_cons_succ])
  refine wpAnyE_takeL (preMod _) 38 (v := ?_) rfl (by kernel_rfl) (by kernel_rfl) (by kernel_rfl) (fun _ _ _ h => h) (Or.inl ⟨by rfl, ?_⟩) ?_
  rotate_left; (intro W hW; (try dsimp only at hW); (have hcw := HC34.out W (HF.out.trans hW); go_simp); try with_reducible rfl)
  (try simp only [Act.put, List.setIfInBounds_toArray, List.set_cons_zero, List.set_cons_succ])
  refine wpAnyE_ready (rs := [39]) (by kernel_rfl) (by simp) ?_
  refine AllReadyE.consL rfl (fun K hK => ?_) AllReadyE.nil
  rw [if_pos (by rfl)]
  go_simp
  go_at_call 21
  refine (HEH.out _ HF.out).mono ?_
  rintro e' w9 ⟨rfl, hm9⟩
  have hmE := hm9
  have HFnew := Lib.hid (HF.out.trans hm9); clear HF; have HF := HFnew; clear HFnew
  go_wp2_with fail
  refine hK.out _ _ (by first | exact hmE | exact Mod.refl _ _ | exact (Mod.refl _ _).alloc _) ?_
  clear hK
  (try simp only [Act.put, List.setIfInBounds_toArray, List.set_cons_zero, List.set_cons_succ])
  refine wpAnyE_takeL (preMod _) 40 (v := ?_) rfl (by kernel_rfl) (by kernel_rfl) (by kernel_rfl) (fun _ _ _ h => h) (Or.inl ⟨by rfl, ?_⟩) ?_
  rotate_left; (intro W hW; (try dsimp only at hW); go_simp; try with_reducible rfl)
  (try simp only [Act.put, List.setIfInBounds_toArray, List.set_cons_zero, List.set_cons_succ])
  refine wpAnyE_takeL (preMod _) 41 (v := ?_) rfl (by kernel_rfl) (by kernel_rfl) (by kernel_rfl) (fun _ _ _ h => h) (Or.inl ⟨by rfl, ?_⟩) ?_
  rotate_left; (intro W hW; (try dsimp only at hW); go_simp; try with_reducible rfl)
  (try simp only [Act.put, List.setIfInBounds_toArray, List.set_cons_zero, List.set_cons_succ])
  refine wpAnyE_done (by kernel_rfl) ?_ _
  go_wp2
  go_ret
  exact ⟨rfl, HM5.out.trans HF.out⟩
end Go.Proofs.Ytlpjeckhejbkkaa
end

section
set_option linter.unusedVariables false
set_option linter.unusedSimpArgs false
set_option maxRecDepth 20000
set_option maxHeartbeats 400000
namespace Go.Proofs.Ytlpjeckhejbkkaa
open Go.ChangeShapes Go.WideShapes Go.ChangeAt Go.RowKit

variable {H : Type} {enc : TypeId × Value → H} {w : World} {base : Nat} {spare : Nat → Bool} {held : Bool} {fuel : Nat} {x : DataW H × List MemPlace}
theorem agg_weights {P : Program} {t : TypeId} {fs : Array Field} (hu : P.underlying t = some (.struct fs)) (parts : List (DataW H)) : (DataW.agg parts).weights P t = DataW.weightsEach P (fs.toList.map (·.type)) parts := by
  rw [DataW.weights, hu]
/-- an operation, and how heavy its key is -/
theorem open_opk {cs : List Value} (h : DataW.trod enc Try.prog w base spare held fuel 74 cs = some x) : ∃ o : GOp, cs = o.cells ∧ o.nums ∧ o.at_.nums ∧ o.key.size ∈ x.1.weights Try.prog 74 := by
  obtain ⟨o, rfl, ho1, ho2⟩ := open_op h
  refine ⟨o, rfl, ho1, ho2, ?_⟩
  obtain ⟨xs, n, _, rfl, hl, hn, hf⟩ := DataW.trod_struct Try.underlying74 h
  have c2 : Try.prog.cellsOf 9 = 1 := by kernel_rfl
  match xs, hn with
  | [y0, y1, y2, y3, y4], _ =>
    have h1 := hf 1 ⟨"Key", 9, 1, false, "", "", 8⟩ rfl
    dsimp only at h1
    rw [c2] at h1
    obtain ⟨key, e1, hy, _⟩ := DataW.trod_string Try.underlying9 (h1.trans rfl)
    have hk : o.key = key := by
      simp [GOp.cells] at e1
      exact e1
    subst hk
    subst hy
    dsimp only [List.map_cons, List.map_nil]
    rw [agg_weights Try.underlying74]
    refine DataW.weights_mem_each (j := 1) rfl rfl _ ?_
    rw [DataW.weights, List.mem_singleton, Array.length_toList]
    rfl
theorem open_opsk {cs : List Value} (h : DataW.trod enc Try.prog w base spare held fuel 24 cs = some x) : ∃ (v : Value) (g : Nat) (l : List GOp), cs = [v] ∧ OS w g v l ∧ (∀ o ∈ l, o.nums ∧ o.at_.nums) ∧
    (l = [] ∨ ∃ es sp : List (DataW H), x.1 = .slice es sp ∧ es.length = l.length ∧ ∀ o ∈ l, ∃ e ∈ es, o.key.size ∈ e.weights Try.prog 74) := by
  rcases DataW.trod_slice Try.underlying24 h with ⟨rfl, _⟩ | ⟨a, len, cap, elems, rest, n, _, rfl, rfl, _, hl, hm, hlen, hel, _, _⟩
  · exact ⟨_, 0, [], rfl, RS.nil w 37 0, by simp, .inl rfl⟩
  · have c37 : Try.prog.cellsOf 74 = 37 := by kernel_rfl
    rw [c37] at hel
    obtain ⟨b, off, spot⟩ := a
    by_cases h0 : 0 < len
    · have hs : spot = none := by
        have h1 := hel 0 h0
        rw [List.getElem?_eq_getElem (by omega), Option.bind_eq_some_iff] at h1
        obtain ⟨cs', h2, h3⟩ := h1
        obtain ⟨o, rfl, _, _⟩ := open_op h3
        obtain ⟨_, _, h6⟩ := World.cells?_some h2
        have h7 := h6 0 (by omega)
        have h8 : w.cell? ⟨b, off, spot⟩ = some (.int .i64 o.kind) := by simpa [Addr.add, GOp.cells] using h7
        exact World.cell?_spot h8
      subst hs
      have each : ∀ i, i < len → ∃ o : GOp, OpAt w b (off + i * 37) o ∧ (o.nums ∧ o.at_.nums) ∧ ∃ e ∈ elems.map (·.1), o.key.size ∈ e.weights Try.prog 74 := fun i hi => by
        have h1 := hel i hi
        have hei : i < elems.length := by omega
        rw [List.getElem?_eq_getElem hei, Option.bind_eq_some_iff] at h1
        obtain ⟨cs', h2, h3⟩ := h1
        obtain ⟨o, rfl, h4, h5, hw⟩ := open_opk h3
        obtain ⟨_, _, h6⟩ := World.cells?_some h2
        refine ⟨o, fun k u hu => ?_, ⟨h4, h5⟩, _, List.mem_map.2 ⟨elems[i], List.getElem_mem hei, rfl⟩, hw⟩
        have hk : k < 37 := by rw [← o.cells_length]; exact (List.getElem?_eq_some_iff.1 hu).1
        have h7 := h6 k hk
        rw [hu, Addr.add_mid, Addr.add_mid] at h7
        exact h7
      obtain ⟨l, hll, hp⟩ := list_of (fun i o => OpAt w b (off + i * 37) o ∧ (o.nums ∧ o.at_.nums) ∧ ∃ e ∈ elems.map (·.1), o.key.size ∈ e.weights Try.prog 74) len each
      subst hll
      have hg : b < w.heap.size := by
        have := (hp 0 h0).1.kind
        rcases Nat.lt_or_ge b w.heap.size with hlt | hge
        · exact hlt
        · simp [World.cell?, Array.getElem?_eq_none hge] at this
      refine ⟨_, b, l, rfl, OS.of_items hl hm hg (fun i hi => (hp i hi).1), fun o ho => ?_, .inr ⟨_, _, rfl, by simpa using hlen, fun o ho => ?_⟩⟩
      · obtain ⟨i, hi, rfl⟩ := List.mem_iff_getElem.1 ho
        exact (hp i hi).2.1
      · obtain ⟨i, hi, rfl⟩ := List.mem_iff_getElem.1 ho
        exact (hp i hi).2.2
    · have e : len = 0 := by omega
      subst e
      exact ⟨_, 0, [], rfl, ⟨by simp, _, cap, rfl, hl, hm, fun h => absurd h (by simp)⟩, by simp, .inl rfl⟩
theorem weightsAll_mem {P : Program} {e : TypeId} : ∀ {l : List (DataW H)} {d : DataW H}, d ∈ l → ∀ n ∈ d.weights P e, n ∈ DataW.weightsAll P e l
  | d' :: r, d, hd, n, hn => by
    simp only [DataW.weightsAll, List.mem_append]
    rcases List.mem_cons.1 hd with rfl | h
    · exact Or.inl hn
    · exact Or.inr (weightsAll_mem h n hn)
theorem ops_bytes : Try.prog.bytesOf 74 = 88 := by kernel_rfl
theorem ops_short {ts : List TypeId} {ds : List (DataW H)} {l : List GOp} {d : DataW H} (hz : (DataW.weightsEach Try.prog ts ds).all (· ≤ reachBytes) = true) {j : Nat} (ht : ts[j]? = some 24) (hd : ds[j]? = some d)
    (h : l = [] ∨ ∃ es sp : List (DataW H), d = .slice es sp ∧ es.length = l.length ∧ ∀ o ∈ l, ∃ e ∈ es, o.key.size ∈ e.weights Try.prog 74) : l.length ≤ 1700000000000 ∧ ∀ o ∈ l, o.key.size ≤ 140737488351232 := by
  rcases h with rfl | ⟨es, sp, rfl, he, hk⟩
  · simp
  · refine ⟨?_, fun o ho => ?_⟩
    · have := sized_slice hz ht hd Try.underlying24
      rw [ops_bytes] at this
      simp only [reachBytes] at this
      omega
    · obtain ⟨e, hes, hw⟩ := hk o ho
      refine of_decide_eq_true (List.all_eq_true.1 hz _ (DataW.weights_mem_each ht hd _ ?_))
      simp only [DataW.weights, Try.underlying24, List.mem_cons, List.mem_append]
      exact Or.inr (Or.inl (weightsAll_mem hes _ hw))
end Go.Proofs.Ytlpjeckhejbkkaa
end

section
set_option linter.unusedVariables false
set_option linter.unusedSimpArgs false
set_option maxRecDepth 20000
set_option maxHeartbeats 400000
namespace Go.Proofs.Ytlpjeckhejbkkaa
open Go.ChangeShapes Go.WideShapes Go.ChangeAt Go.RowKit

/-! ### transactions and entries that come in, and how long their lists are -/
variable {H : Type} {enc : TypeId × Value → H} {w : World} {base : Nat} {spare : Nat → Bool} {held : Bool} {fuel : Nat} {x : DataW H × List MemPlace}
def LongAs (l : Nat) (d : DataW H) : Prop := l = 0 ∨ ∃ es sp : List (DataW H), d = .slice es sp ∧ es.length = l
theorem slice_long {t e : TypeId} (ht : Try.prog.underlying t = some (.slice e)) {A : Option Addr} {n c : Nat} {cs : List Value} (hcs : cs = [.slice A n c]) (h : DataW.trod enc Try.prog w base spare held fuel t cs = some x) : LongAs n x.1 := by
  rcases DataW.trod_slice ht h with ⟨h1, _⟩ | ⟨a, len, cap, elems, rest, m, _, h1, rfl, _, hl, hm, hlen, hel, _, _⟩
  · rw [hcs] at h1
    simp at h1
    exact .inl h1.2.1
  · rw [hcs] at h1
    simp at h1
    exact .inr ⟨_, _, rfl, by simp; omega⟩
theorem hash_bytes : Try.prog.bytesOf 46 = 32 := by kernel_rfl
theorem op_bytes : Try.prog.bytesOf 74 = 88 := by kernel_rfl
/-- how long the lists of a transaction may be -/
def NodeShort (n : GNode) (d : DataW H) : Prop := (d.weights Try.prog 26).all (· ≤ reachBytes) = true → n.parents.length ≤ 4398046511104 ∧ n.ops.length ≤ 1700000000000
theorem open_nodek {cs : List Value} (h : DataW.trod enc Try.prog w base spare held fuel 26 cs = some x) :
    ∃ (n : GNode) (gp go : Nat) (pv ov : Value), cs = nodeL n.author n.clock pv ov ∧ NodR w n gp go pv ov ∧ (∀ o ∈ n.ops, o.nums) ∧ NodeShort n x.1 := by
  obtain ⟨n, gp, go, pv, ov, hcs, hr, hns⟩ := open_node h
  refine ⟨n, gp, go, pv, ov, hcs, hr, hns, ?_⟩
  subst hcs
  obtain ⟨xs, m, _, rfl, hl, hn, hf⟩ := DataW.trod_struct Try.underlying26 h
  have c2 : Try.prog.cellsOf 23 = 1 := by kernel_rfl
  have c3 : Try.prog.cellsOf 24 = 1 := by kernel_rfl
  match xs, hn with
  | [y0, y1, y2, y3], _ =>
    have h2 := hf 2 ⟨"Parents", 23, 2, false, "", "", 16⟩ rfl
    have h3 := hf 3 ⟨"Ops", 24, 3, false, "", "", 40⟩ rfl
    dsimp only at h2 h3
    rw [c2] at h2
    rw [c3] at h3
    obtain ⟨A, c, hpv, _, _⟩ := hr.ps.val
    obtain ⟨B, d, hov, _, _⟩ := hr.os.val
    have l2 := slice_long Try.underlying23 (A := A) (n := n.parents.length) (c := c) (by rw [← hpv]; rfl) (h2.trans rfl)
    have l3 := slice_long Try.underlying24 (A := B) (n := n.ops.length) (c := d) (by rw [← hov]; rfl) (h3.trans rfl)
    intro hw
    dsimp only [List.map_cons, List.map_nil] at hw
    rw [agg_weights Try.underlying26] at hw
    refine ⟨?_, ?_⟩
    · rcases l2 with h0 | ⟨es, sp, he, hes⟩
      · omega
      · have := sized_slice hw (j := 2) (t := 23) (elems := es) (spare := sp) rfl (by rw [← he]; rfl) Try.underlying23
        rw [hash_bytes] at this
        simp only [reachBytes] at this
        omega
    · rcases l3 with h0 | ⟨es, sp, he, hes⟩
      · omega
      · have := sized_slice hw (j := 3) (t := 24) (elems := es) (spare := sp) rfl (by rw [← he]; rfl) Try.underlying24
        rw [op_bytes] at this
        simp only [reachBytes] at this
        omega
theorem all_sub {A B : List Nat} (h : ∀ n ∈ A, n ∈ B) (hb : B.all (· ≤ reachBytes) = true) : A.all (· ≤ reachBytes) = true := List.all_eq_true.2 fun n hn => List.all_eq_true.1 hb n (h n hn)
theorem nodeLists_short {ts : List TypeId} {ds : List (DataW H)} {n : GNode} {d : DataW H} (hz : (DataW.weightsEach Try.prog ts ds).all (· ≤ reachBytes) = true) {j : Nat} (ht : ts[j]? = some 26) (hd : ds[j]? = some d) (h : NodeShort n d) : n.parents.length ≤ 4398046511104 ∧ n.ops.length ≤ 1700000000000 :=
  h (all_sub (fun m hm => DataW.weights_mem_each ht hd m hm) hz)
def EntryShort (n : GNode) (d : DataW H) : Prop := (d.weights Try.prog 48).all (· ≤ reachBytes) = true → n.parents.length ≤ 4398046511104 ∧ n.ops.length ≤ 1700000000000
theorem open_entry {cs : List Value} (h : DataW.trod enc Try.prog w base spare held fuel 48 cs = some x) :
    ∃ (e : GHash) (n : GNode) (gp go : Nat) (pv ov : Value), cs = entryL e n.author n.clock pv ov ∧ NodR w n gp go pv ov ∧ (∀ o ∈ n.ops, o.nums) ∧ EntryShort n x.1 := by
  obtain ⟨y0, y1, m, hx, hl, h0, h1⟩ := trod_struct2 Try.underlying48 h
  have c36 : Try.prog.cellsOf 48 = 36 := by kernel_rfl
  have c32 : Try.prog.cellsOf 46 = 32 := by kernel_rfl
  have c4 : Try.prog.cellsOf 26 = 4 := by kernel_rfl
  rw [c36] at hl
  rw [c32] at h0
  rw [c4] at h1
  obtain ⟨a, ha⟩ := open_hash h0
  obtain ⟨n, gp, go, pv, ov, hc, hr, hns, hsh⟩ := open_nodek h1
  refine ⟨a, n, gp, go, pv, ov, ?_, hr, hns, fun hw => hsh ?_⟩
  · have e : cs = (cs.drop 0).take 32 ++ (cs.drop 32).take 4 := by
      have e1 : (cs.drop 32).take 4 = cs.drop 32 := List.take_of_length_le (by simp; omega)
      rw [e1, List.drop_zero, List.take_append_drop]
    rw [e, ha, hc]
  · rw [hx] at hw
    rw [agg_weights Try.underlying48] at hw
    exact all_sub (fun k hk => DataW.weights_mem_each (j := 1) (t := 26) rfl rfl k hk) hw
theorem entry_short {ts : List TypeId} {ds : List (DataW H)} {n : GNode} {d : DataW H} (hz : (DataW.weightsEach Try.prog ts ds).all (· ≤ reachBytes) = true) {j : Nat} (ht : ts[j]? = some 48) (hd : ds[j]? = some d) (h : EntryShort n d) : n.parents.length ≤ 4398046511104 ∧ n.ops.length ≤ 1700000000000 :=
  h (all_sub (fun m hm => DataW.weights_mem_each ht hd m hm) hz)
end Go.Proofs.Ytlpjeckhejbkkaa
end

section
set_option linter.unusedVariables false
namespace Go.Proofs.Ytlpjeckhejbkkaa
open Go.ChangeShapes Go.WideShapes Go.ChangeAt Go.RowKit

theorem nsames_own : ownKnob Try.prog.godebug = none := by kernel_rfl
theorem nsames_laidOut : laidOutB Try.prog = true := by kernel_rfl
set_option maxRecDepth 100000 in
theorem nsames_lifted (os : Os) (started : os.Started) (H : Type) (enc : TypeId × Value → H) :
    ReturnsInHanded {} Try.checked os 6 .any (Rows.nodeSamesSpec.pre6 enc Try.prog Try.f6 Rows.nodeSamesRow.domain false) (Rows.nodeSamesSpec.post enc Try.prog Try.f6 false true false false) := by
  refine returnsInHanded_of_change_sized (C := Try.checked) nsames_own started (by kernel_rfl) Try.func6
    (ChangeSpec.witness6 (enc := enc) (C := Try.checked) false ⟨#[], #[.agg (GHash.zero.cells ++ nodeL 0 0 (.slice none 0 0) (.slice none 0 0)).toArray, .agg (GHash.zero.cells ++ nodeL 0 0 (.slice none 0 0) (.slice none 0 0)).toArray], []⟩ 8 (by kernel_rfl) (by kernel_rfl) (by kernel_rfl) (by kernel_rfl)) ?_
  intro W base args ds gs before hval0 hW hcnd hsz0 _
  have hsz : (DataW.weightsEach Try.prog (Try.f6.params.toList ++ Rows.nodeSamesSpec.plain.varTypes Try.prog) (ds ++ gs)).all (· ≤ reachBytes) = true := hsz0
  clear hsz0
  have hval : ∀ (j : Nat) t v, Try.f6.params[j]? = some t → args[j]? = some v → Value.okWide Try.prog W .any base t v := hval0
  have hW' := hW
  obtain ⟨p, q, hA0, hV, rfl, hfz, hnd⟩ := hW
  have hA : DataW.TrodAll enc Try.prog W 0 (fun _ => true) true Try.f6.params.toList args.toList ds p := hA0
  rw [Try.params6] at hA hval hsz
  obtain ⟨v0, vs0, d0, ds0, p0, q0, hargs, rfl, rfl, h0, r0⟩ := trodAll_cons hA
  obtain ⟨v1, vs1, d1, ds1, p1, q1, rfl, rfl, rfl, h1, r1⟩ := trodAll_cons r0
  obtain ⟨rfl, rfl, rfl⟩ := trodAll_nil r1
  obtain rfl : args = #[v0, v1] := by cases args; simp_all
  obtain ⟨rfl, rfl⟩ := trodVars_none hV
  obtain ⟨cs0, rfl, len0⟩ := okWide_struct Try.underlying48 (hval 0 48 v0 rfl rfl)
  have k0 := h0
  have lt0 : ∀ x ∈ p0, x.block < W.heap.size := by obtain ⟨m, hm⟩ := k0; exact DataW.trod_lt m _ _ _ hm
  obtain ⟨e0, n0, gp0, go0, pv0, ov0, rfl, w0, s0, z0⟩ : ∃ (e : GHash) (n : GNode) (gp go : Nat) (pv ov : Value), cs0 = (entryL e n.author n.clock pv ov).toArray ∧ NodR W n gp go pv ov ∧ (∀ o ∈ n.ops, o.nums) ∧ (n.parents.length ≤ 4398046511104 ∧ n.ops.length ≤ 1700000000000) := by
    obtain ⟨fuel, hf⟩ := h0
    obtain ⟨e, n, gp, go, pv, ov, hcs, hr, hns, hsh⟩ := open_entry hf
    exact ⟨e, n, gp, go, pv, ov, by rw [← hcs]; simp [Value.cells], hr, hns, entry_short hsz (j := 0) rfl rfl hsh⟩
  obtain ⟨cs1, rfl, len1⟩ := okWide_struct Try.underlying48 (hval 1 48 v1 rfl rfl)
  have k1 := h1
  have lt1 : ∀ x ∈ p1, x.block < W.heap.size := by obtain ⟨m, hm⟩ := k1; exact DataW.trod_lt m _ _ _ hm
  obtain ⟨e1, n1, gp1, go1, pv1, ov1, rfl, w1, s1, z1⟩ : ∃ (e : GHash) (n : GNode) (gp go : Nat) (pv ov : Value), cs1 = (entryL e n.author n.clock pv ov).toArray ∧ NodR W n gp go pv ov ∧ (∀ o ∈ n.ops, o.nums) ∧ (n.parents.length ≤ 4398046511104 ∧ n.ops.length ≤ 1700000000000) := by
    obtain ⟨fuel, hf⟩ := h1
    obtain ⟨e, n, gp, go, pv, ov, hcs, hr, hns, hsh⟩ := open_entry hf
    exact ⟨e, n, gp, go, pv, ov, by rw [← hcs]; simp [Value.cells], hr, hns, entry_short hsz (j := 1) rfl rfl hsh⟩
  clear hA0 hval0
  refine (nodeSames_any e0 e1 n0 n1 gp0 go0 gp1 go1 pv0 ov0 pv1 ov1 W w0 w1 (by omega)).mono fun e W' ⟨he, hm⟩ => ?_
  have bel : Below W.heap.size W W' := hm.below (by simp)
  subst he
  exact ⟨_, rfl, _, _, _, [], _, [], hW', trodAll_mk1 (shut_bool Try.underlying4 _), (trodAll_cons_mk (Below.trod nsames_laidOut (by kernel_rfl) (of_decide_eq_true (by kernel_rfl)) k0 bel lt0) (trodAll_cons_mk (Below.trod nsames_laidOut (by kernel_rfl) (of_decide_eq_true (by kernel_rfl)) k1 bel lt1) trodAll_mk0)), rfl, bel.frame _, fun h => by cases h⟩
theorem nsames_over : Rows.nodeSamesRow.holds Try.pinned (OpenSpec.ofChange Rows.nodeSamesSpec) :=
  OpenClaim.holds_of_wide 6 Try.f6 rfl rfl rfl rfl rfl rfl rfl ⟨rfl, rfl, rfl, rfl, rfl⟩ rfl rfl rfl rfl rfl (by kernel_rfl) Try.func6 (by kernel_rfl)
    (of_decide_eq_true (by kernel_rfl)) (by unfold Func.isWrapper; first | (rw [if_pos (by decide +kernel)]; kernel_rfl) | (rw [if_neg (by decide +kernel)]; exact ⟨rfl, rfl⟩))
    (fun os started H enc _ => nsames_lifted os started H enc)
theorem nodeSames : Rows.NodeSamesSaid := nsames_over
#print axioms nodeSames
end Go.Proofs.Ytlpjeckhejbkkaa
end
