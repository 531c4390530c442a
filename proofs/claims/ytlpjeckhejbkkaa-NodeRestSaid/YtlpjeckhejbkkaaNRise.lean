import Derived.Test.YtlpjeckhejbkkaaNCmp2
import Derived.Test.YtlpjeckhejbkkaaRegOps
set_option linter.unusedVariables false
set_option linter.unusedSimpArgs false
set_option maxRecDepth 20000
set_option maxHeartbeats 800000
namespace Go.Proofs.Ytlpjeckhejbkkaa
open Go.RowKit

/-! ### hashes that rise -/
theorem risesTo_eq (done : List GHash) (g h : GHash) (hd : done.getLast? = some g) : risesTo done h = decide (cmpB g.l h.l < 0) := by unfold risesTo; rw [hd]
theorem rising_iff (l : List GHash) : ∀ done : List GHash, risingFrom done l = true ↔ (∀ g h, done.getLast? = some g → l.head? = some h → cmpB g.l h.l < 0) ∧ ∀ i (h : i + 1 < l.length), cmpB (l[i]'(by omega)).l l[i + 1].l < 0 := by
  induction l with
  | nil => intro done; simp [risingFrom]
  | cons x l ih =>
    intro done
    rw [risingFrom, Bool.and_eq_true, ih (done ++ [x])]
    have h1 : risesTo done x = true ↔ ∀ g, done.getLast? = some g → cmpB g.l x.l < 0 := by
      unfold risesTo
      cases done.getLast? with
      | none => simp
      | some g => simp
    rw [h1]
    constructor
    · rintro ⟨a, b, c⟩
      refine ⟨fun g h hg hh => by simp at hh; subst hh; exact a g hg, fun i hi => ?_⟩
      cases i with
      | zero =>
        cases l with
        | nil => simp at hi
        | cons y l => exact b x y (by simp) (by simp)
      | succ i => exact c i (by simpa using hi)
    · rintro ⟨a, c⟩
      refine ⟨fun g hg => a g x hg rfl, fun g h hg hh => ?_, fun i hi => c (i + 1) (by simpa using hi)⟩
      cases l with
      | nil => simp at hh
      | cons y l =>
        simp at hg hh
        subst hg hh
        exact c 0 (by simp)
theorem rising_true {l : List GHash} (h : ∀ i (h : i + 1 < l.length), cmpB (l[i]'(by omega)).l l[i + 1].l < 0) : risingFrom [] l = true := (rising_iff l []).2 ⟨by simp, h⟩
theorem rising_false {l : List GHash} {i : Nat} (h : i + 1 < l.length) (hc : ¬ cmpB (l[i]'(by omega)).l l[i + 1].l < 0) : risingFrom [] l = false := by
  cases hr : risingFrom [] l with
  | false => rfl
  | true => exact absurd (((rising_iff l []).1 hr).2 i h) hc
theorem rising_any (l : List GHash) (g : Nat) (v : Value) (w : World) (hs : HS w g v l) :
    Calls Try.prog 31 #[v] w fun e w' => e = .returned (.bool (risingFrom [] l)) ∧ Mod [] w w' := by
  obtain ⟨A, cap, rfl, hc1, hc2⟩ := hs.val
  unfold maxLen at hc2
  have HS1 := Lib.hid hs; clear hs
  go_enter Try.func31, Try.ntmps31
  go_wp2_with fail
  go_loopw [3] (fun s3 wr => ∃ m : Nat, s3 = .int .i64 ((m : Int) + 1) ∧ (m + 1 ≤ l.length ∨ m = 0) ∧ Hid (∀ i (h : i + 1 < l.length), i < m → cmpB (l[i]'(by omega)).l l[i + 1].l < 0) ∧ Hid (Mod [] w wr)) (fun s _ => l.length - (intOf s).toNat)
  case atStart => exact ⟨0, rfl, .inr rfl, Lib.hid (fun i _ h => by omega), Lib.hid (Mod.refl _ _)⟩
  case round =>
    obtain ⟨m, rfl, hm, HR, HM⟩ := hrel
    by_cases hml : m + 1 < l.length
    · have HOA : Hid (HS wr g _ l) := Lib.hid (HS1.out.mod HM.out (by simp))
      obtain ⟨o1, ca, hv1, _, _, _, hA⟩ := HS.item HOA.out (by omega)
      injection hv1 with hx1 hx2 hx3
      subst hx1 hx3
      have HA := Lib.hid (hA m (by omega))
      have HB := Lib.hid (hA (m + 1) hml)
      clear hA hx2 hm
      have hlt : (m : Int) + 1 < l.length := by omega
      go_wp2_with fail
      have hw0 : Mod [] wr wr.drew := (Mod.refl _ wr).drew
      have hlA : ∀ W, Mod [] wr W → CellsAt W g (o1 + m * 32) (l[m]'(by omega)).cells := fun W hW => CellsAt.mod HA.out hW (by simp)
      have hlB : ∀ W, Mod [] wr W → CellsAt W g (o1 + (m + 1) * 32) l[m + 1].cells := fun W hW => CellsAt.mod HB.out hW (by simp)
      have hq : IntKind.i64.wrap ((m : Int) + 1 - 1) = (m : Int) := by rw [IntWalk.i64_in _ (by omega)]; omega
      have hq2 : IntKind.i64.wrap (m : Int) = (m : Int) := IntWalk.i64_in _ (by omega)
      have hml2 : (m : Int) < (l.length : Int) := by omega
      have hn : ((m : Int) + 1).toNat = m + 1 := by omega
      have hn0 : (0 : Int) ≤ (m : Int) + 1 := by omega
      have HS2 : Hid (∀ W, Calls Try.prog 50 #[.agg (l[m]'(by omega)).cells.toArray, .agg l[m + 1].cells.toArray] W fun e w' => e = .returned (.int .i64 (cmpB (l[m]'(by omega)).l l[m + 1].l)) ∧ Mod [] W w') := Lib.hid (fun W => shaCompare_any _ _ W)
      obtain ⟨c, hc⟩ : ∃ c, cmpB (l[m]'(by omega)).l l[m + 1].l = c := ⟨_, rfl⟩
      rw [hc] at HS2
      have HCC := Lib.hid hc
      clear hc
      refine wp_regionE (Mod []) (by kernel_rfl) ?_
      simp only [List.size_toArray, List.length_cons, List.length_nil, Nat.zero_add, Nat.reduceAdd]
      refine wpAnyE_takeL (preMod _) 0 (v := ?_) rfl (by kernel_rfl) (by kernel_rfl) (by kernel_rfl) (fun _ _ _ h => h) (Or.inl ⟨by rfl, ?_⟩) ?_
      rotate_left; (intro W hW; (try dsimp only at hW); go_simp; try with_reducible rfl)
      (try simp only [Act.put, List.setIfInBounds_toArray, List.set_cons_zero, List.set_cons_succ])
      refine wpAnyE_takeL (preMod _) 1 (v := ?_) rfl (by kernel_rfl) (by kernel_rfl) (by kernel_rfl) (fun _ _ _ h => h) (Or.inl ⟨by rfl, ?_⟩) ?_
      rotate_left; (intro W hW; (try dsimp only at hW); go_simp; try with_reducible rfl)
      (try simp only [Act.put, List.setIfInBounds_toArray, List.set_cons_zero, List.set_cons_succ])
      refine wpAnyE_takeL (preMod _) 2 (v := ?_) rfl (by kernel_rfl) (by kernel_rfl) (by kernel_rfl) (fun _ _ _ h => h) (Or.inl ⟨by rfl, ?_⟩) ?_
      rotate_left; (intro W hW; (try dsimp only at hW); go_simp; try with_reducible rfl)
      (try simp only [Act.put, List.setIfInBounds_toArray, List.set_cons_zero, List.set_cons_succ])
      refine wpAnyE_takeL (preMod _) 3 (v := ?_) rfl (by kernel_rfl) (by kernel_rfl) (by kernel_rfl) (fun _ _ _ h => h) (Or.inl ⟨by rfl, ?_⟩) ?_
      rotate_left; (intro W hW; (try dsimp only at hW); go_simp; try with_reducible rfl)
      (try simp only [Act.put, List.setIfInBounds_toArray, List.set_cons_zero, List.set_cons_succ])
      refine wpAnyE_takeL (preMod _) 4 (v := ?_) rfl (by kernel_rfl) (by kernel_rfl) (by kernel_rfl) (fun _ _ _ h => h) (Or.inl ⟨by rfl, ?_⟩) ?_
      rotate_left; (intro W hW; (try dsimp only at hW); refine (run_load_cells rtHash (.tmp 13) (by rfl) (by rfl) (GHash.cells_length _) (hlA W (hw0.trans hW))).trans ?_; try with_reducible rfl)
      (try simp only [Act.put, List.setIfInBounds_toArray, List.set_cons_zero, List.set_cons_succ])
      refine wpAnyE_takeL (preMod _) 5 (v := ?_) rfl (by kernel_rfl) (by kernel_rfl) (by kernel_rfl) (fun _ _ _ h => h) (Or.inl ⟨by rfl, ?_⟩) ?_
      rotate_left; (intro W hW; (try dsimp only at hW); go_simp; try with_reducible rfl)
      (try simp only [Act.put, List.setIfInBounds_toArray, List.set_cons_zero, List.set_cons_succ])
      refine wpAnyE_takeL (preMod _) 6 (v := ?_) rfl (by kernel_rfl) (by kernel_rfl) (by kernel_rfl) (fun _ _ _ h => h) (Or.inl ⟨by rfl, ?_⟩) ?_
      rotate_left; (intro W hW; (try dsimp only at hW); go_simp; try with_reducible rfl)
      (try simp only [Act.put, List.setIfInBounds_toArray, List.set_cons_zero, List.set_cons_succ])
      refine wpAnyE_takeL (preMod _) 7 (v := ?_) rfl (by kernel_rfl) (by kernel_rfl) (by kernel_rfl) (fun _ _ _ h => h) (Or.inl ⟨by rfl, ?_⟩) ?_
      rotate_left; (intro W hW; (try dsimp only at hW); (go_simp; try rw [if_pos (by omega)]); try with_reducible rfl)
      (try simp only [Act.put, List.setIfInBounds_toArray, List.set_cons_zero, List.set_cons_succ])
      refine wpAnyE_takeL (preMod _) 8 (v := ?_) rfl (by kernel_rfl) (by kernel_rfl) (by kernel_rfl) (fun _ _ _ h => h) (Or.inl ⟨by rfl, ?_⟩) ?_
      rotate_left; (intro W hW; (try dsimp only at hW); refine (run_load_cells rtHash (.tmp 17) (by rfl) (by rfl) (GHash.cells_length _) (hlB W (hw0.trans hW))).trans ?_; try with_reducible rfl)
      (try simp only [Act.put, List.setIfInBounds_toArray, List.set_cons_zero, List.set_cons_succ])
      refine wpAnyE_ready (rs := [9]) (by kernel_rfl) (by simp) ?_
      refine AllReadyE.consL rfl (fun K hK => ?_) AllReadyE.nil
      rw [if_pos (by rfl)]
      go_simp
      go_at_call 50
      refine (HS2.out _).mono ?_
      rintro e' w9 ⟨rfl, hm9⟩
      have hmE := hm9
      have HM9 : Hid (Mod [] wr w9) := Lib.hid (hw0.trans hm9)
      go_wp2_with fail
      refine hK.out _ _ (by first | exact hmE | exact Mod.refl _ _ | exact (Mod.refl _ _).alloc _) ?_
      clear hK
      (try simp only [Act.put, List.setIfInBounds_toArray, List.set_cons_zero, List.set_cons_succ])
      refine wpAnyE_takeL (preMod _) 10 (v := ?_) rfl (by kernel_rfl) (by kernel_rfl) (by kernel_rfl) (fun _ _ _ h => h) (Or.inl ⟨by rfl, ?_⟩) ?_
      rotate_left; (intro W hW; (try dsimp only at hW); go_simp; try with_reducible rfl)
      (try simp only [Act.put, List.setIfInBounds_toArray, List.set_cons_zero, List.set_cons_succ])
      refine wpAnyE_done (by kernel_rfl) ?_ _
      have HMW : Hid (Mod [] w w9) := Lib.hid (HM.out.trans HM9.out)
      clear hlA hlB
      by_cases hneg : c < 0
      · have hge : ¬ (0 ≤ c) := by omega
        go_wp2_with fail
        go_roundw
        case rel =>
          refine ⟨m + 1, by go_num, .inl (by omega), Lib.hid (fun i hi him => ?_), HMW⟩
          by_cases e : i = m
          · subst e; rw [HCC.out]; exact hneg
          · exact HR.out i hi (by omega)
        case measure => simp [intOf]; omega
      · have hge : 0 ≤ c := by omega
        go_wp2_with fail
        go_ret
        exact ⟨ret_bool (rising_false hml (by rw [HCC.out]; omega)).symm, HMW.out⟩
    · have hlt : ¬ ((m : Int) + 1 < l.length) := by omega
      go_wp2_with fail
      go_ret
      exact ⟨ret_bool (rising_true (fun i hi => HR.out i hi (by omega))).symm, HM.out⟩
end Go.Proofs.Ytlpjeckhejbkkaa
