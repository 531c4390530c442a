import Derived.Test.YtdiplliemdogfaaRGet
set_option linter.unusedVariables false
set_option linter.unusedSimpArgs false
set_option maxRecDepth 20000
set_option maxHeartbeats 1600000
namespace Go.Proofs.Ytdiplliemdogfaa
open Go.RowKit

theorem refSameList_any (l1 l2 : List GOp) (g1 g2 : Nat) (v1 v2 : Value) (w : World) (h1 : OS w g1 v1 l1) (h2 : OS w g2 v2 l2) :
    Calls Try.prog 26 #[v1, v2] w fun e w' => e = .returned (.bool (decide (l1 = l2))) ∧ Mod [] w w' := by
  obtain ⟨A1, c1, rfl, hc1, hc1'⟩ := h1.val
  obtain ⟨A2, c2, rfl, hc2, hc2'⟩ := h2.val
  unfold maxLen at hc1' hc2'
  have HS1 := Lib.hid h1; clear h1
  have HS2 := Lib.hid h2; clear h2
  by_cases hl : l1.length = l2.length
  · have hl' : (l1.length : Int) = (l2.length : Int) := by omega
    rw [hl] at hc1 ⊢
    have HL := Lib.hid hl; clear hl
    go_enter Try.func26, Try.ntmps26
    go_wp2_with fail
    go_loopw [5] (fun s5 wr => ∃ i : Nat, s5 = .int .i64 (i : Int) ∧ i ≤ l2.length ∧ Hid (l1.take i = l2.take i) ∧ Hid (Mod [] w wr)) (fun s _ => l2.length - (intOf s).toNat)
    case atStart => exact ⟨0, rfl, by omega, Lib.hid rfl, Lib.hid (Mod.refl _ _)⟩
    case round =>
      obtain ⟨i, rfl, hi, HT, HM⟩ := hrel
      by_cases hil : i < l2.length
      · have h1l : i < l1.length := by have := HL.out; omega
        have HOA : Hid (OS wr g1 _ l1) := Lib.hid (HS1.out.mod HM.out (by simp))
        have HOB : Hid (OS wr g2 _ l2) := Lib.hid (HS2.out.mod HM.out (by simp))
        obtain ⟨o1, ca, hv1, _, _, _, hA⟩ := OS.item HOA.out (by omega)
        obtain ⟨o2, cb, hv2, _, _, _, hB⟩ := OS.item HOB.out (by omega)
        injection hv1 with hx1 hx2 hx3
        injection hv2 with hy1 hy2 hy3
        subst hx1 hx3 hy1 hy3
        have HA := Lib.hid (hA i h1l)
        have HB := Lib.hid (hB i hil)
        clear hA hB hx2 hy2
        go_wp2_with fail
        have hw0 : Mod [] wr wr.drew := (Mod.refl _ wr).drew
        have hil' : (i : Int) < (l2.length : Int) := by omega
        have hlA : ∀ W, Mod [] wr W → CellsAt W g1 (o1 + i * 37) l1[i].cells := fun W hW => CellsAt.mod HA.out hW (by simp)
        have hlB : ∀ W, Mod [] wr W → CellsAt W g2 (o2 + i * 37) l2[i].cells := fun W hW => CellsAt.mod HB.out hW (by simp)
        refine wp_regionE (Mod []) (by kernel_rfl) ?_
        simp only [List.size_toArray, List.length_cons, List.length_nil, Nat.zero_add, Nat.reduceAdd]
        refine wpAnyE_takeL (preMod _) 0 (v := ?_) rfl (by kernel_rfl) (by kernel_rfl) (by kernel_rfl) (fun _ _ _ h => h) (Or.inl ⟨by rfl, ?_⟩) ?_
        rotate_left; (intro W hW; (try dsimp only at hW); go_simp; try with_reducible rfl)
        (try simp only [Act.put, List.setIfInBounds_toArray, List.set_cons_zero, List.set_cons_succ])
        refine wpAnyE_takeL (preMod _) 1 (v := ?_) rfl (by kernel_rfl) (by kernel_rfl) (by kernel_rfl) (fun _ _ _ h => h) (Or.inl ⟨by rfl, ?_⟩) ?_
        rotate_left; (intro W hW; (try dsimp only at hW); go_simp; try with_reducible rfl)
        (try simp only [Act.put, List.setIfInBounds_toArray, List.set_cons_zero, List.set_cons_succ])
        refine wpAnyE_takeL (preMod _) 2 (v := ?_) rfl (by kernel_rfl) (by kernel_rfl) (by kernel_rfl) (fun _ _ _ h => h) (Or.inl ⟨by rfl, ?_⟩) ?_
        rotate_left; (intro W hW; (try dsimp only at hW); go_simp; try with_reducible rfl)
        (try simp only [Act.put, List.setIfInBounds_toArray, List.set_cons_zero, List.set_cons_succ])
        refine wpAnyE_takeL (preMod _) 3 (v := ?_) rfl (by kernel_rfl) (by kernel_rfl) (by kernel_rfl) (fun _ _ _ h => h) (Or.inl ⟨by rfl, ?_⟩) ?_
        rotate_left; (intro W hW; (try dsimp only at hW); refine (run_load_cells rtOp (.tmp 20) (by rfl) (by rfl) (GOp.cells_length _) (hlA W (hw0.trans hW))).trans ?_; try with_reducible rfl)
        (try simp only [Act.put, List.setIfInBounds_toArray, List.set_cons_zero, List.set_cons_succ])
        refine wpAnyE_takeL (preMod _) 4 (v := ?_) rfl (by kernel_rfl) (by kernel_rfl) (by kernel_rfl) (fun _ _ _ h => h) (Or.inl ⟨by rfl, ?_⟩) ?_
        rotate_left; (intro W hW; (try dsimp only at hW); go_simp; try with_reducible rfl)
        (try simp only [Act.put, List.setIfInBounds_toArray, List.set_cons_zero, List.set_cons_succ])
        refine wpAnyE_takeL (preMod _) 5 (v := ?_) rfl (by kernel_rfl) (by kernel_rfl) (by kernel_rfl) (fun _ _ _ h => h) (Or.inl ⟨by rfl, ?_⟩) ?_
        rotate_left; (intro W hW; (try dsimp only at hW); go_simp; try with_reducible rfl)
        (try simp only [Act.put, List.setIfInBounds_toArray, List.set_cons_zero, List.set_cons_succ])
        refine wpAnyE_takeL (preMod _) 6 (v := ?_) rfl (by kernel_rfl) (by kernel_rfl) (by kernel_rfl) (fun _ _ _ h => h) (Or.inl ⟨by rfl, ?_⟩) ?_
        rotate_left; (intro W hW; (try dsimp only at hW); go_simp; try with_reducible rfl)
        (try simp only [Act.put, List.setIfInBounds_toArray, List.set_cons_zero, List.set_cons_succ])
        refine wpAnyE_takeL (preMod _) 7 (v := ?_) rfl (by kernel_rfl) (by kernel_rfl) (by kernel_rfl) (fun _ _ _ h => h) (Or.inl ⟨by rfl, ?_⟩) ?_
        rotate_left; (intro W hW; (try dsimp only at hW); refine (run_load_cells rtOp (.tmp 24) (by rfl) (by rfl) (GOp.cells_length _) (hlB W (hw0.trans hW))).trans ?_; try with_reducible rfl)
        (try simp only [Act.put, List.setIfInBounds_toArray, List.set_cons_zero, List.set_cons_succ])
        refine wpAnyE_ready (rs := [8]) (by kernel_rfl) (by simp) ?_
        refine AllReadyE.consL rfl (fun K hK => ?_) AllReadyE.nil
        rw [if_pos (by rfl)]
        go_simp
        go_at_call 16
        refine (refSame_any l1[i] l2[i] _).mono ?_
        rintro e' w9 ⟨rfl, hm9⟩
        have hmE := hm9
        have HM9 : Hid (Mod [] wr w9) := Lib.hid (hw0.trans hm9)
        go_wp2_with fail
        refine hK.out _ _ (by first | exact hmE | exact Mod.refl _ _ | exact (Mod.refl _ _).alloc _) ?_
        clear hK
        (try simp only [Act.put, List.setIfInBounds_toArray, List.set_cons_zero, List.set_cons_succ])
        refine wpAnyE_takeL (preMod _) 9 (v := ?_) rfl (by kernel_rfl) (by kernel_rfl) (by kernel_rfl) (fun _ _ _ h => h) (Or.inl ⟨by rfl, ?_⟩) ?_
        rotate_left; (intro W hW; (try dsimp only at hW); go_simp; try with_reducible rfl)
        (try simp only [Act.put, List.setIfInBounds_toArray, List.set_cons_zero, List.set_cons_succ])
        refine wpAnyE_done (by kernel_rfl) ?_ _
        have HMW : Hid (Mod [] w w9) := Lib.hid (HM.out.trans HM9.out)
        clear hlA hlB
        by_cases heq : (l1[i] == l2[i]) = true
        · rw [heq]
          go_wp2_with fail
          go_roundw
          case rel =>
            refine ⟨i + 1, by go_num, by omega, Lib.hid ?_, HMW⟩
            rw [List.take_succ_eq_append_getElem h1l, List.take_succ_eq_append_getElem hil, HT.out, eq_of_beq heq]
          case measure => simp [intOf]; omega
        · rw [Bool.not_eq_true] at heq
          rw [heq]
          go_wp2_with fail
          rw [decide_eq_false (fun h => by subst h; simp at heq)]
          go_ret
          exact ⟨rfl, HMW.out⟩
      · have hie : i = l2.length := by omega
        go_wp2
        have he : l1 = l2 := by
          have h := HT.out
          rw [hie, List.take_length, ← HL.out, List.take_length] at h
          exact h
        rw [decide_eq_true he]
        go_ret
        exact ⟨rfl, HM.out⟩
  · have hl' : ¬ ((l1.length : Int) = (l2.length : Int)) := by omega
    go_enter Try.func26, Try.ntmps26
    go_wp2
    rw [decide_eq_false (fun h => hl (by rw [h]))]
    go_ret
    exact ⟨rfl, Mod.refl _ _⟩
end Go.Proofs.Ytdiplliemdogfaa
