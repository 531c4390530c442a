import Derived.Test.YtlpjeckhejbkkaaRef2
set_option linter.unusedVariables false
set_option linter.unusedSimpArgs false
set_option maxRecDepth 20000
set_option maxHeartbeats 800000
namespace Go.Proofs.Ytlpjeckhejbkkaa
open Go.RowKit

theorem refCheck_any (l : List GOp) (g : Nat) (v : Value) (w : World) (hs : OS w g v l) :
    Calls Try.prog 34 #[v] w fun e w' => e = .returned (.tuple #[.int .i64 (checkOps l).1, .int .i64 (checkOps l).2]) ∧ Mod [] w w' := by
  obtain ⟨A, cap, rfl, hc, hm⟩ := hs.val
  have HS := Lib.hid hs; clear hs
  by_cases hbig : 1024 < l.length
  · have HE : Hid (checkOps l = (3, 0)) := Lib.hid (by rw [checkOps, if_pos hbig])
    go_enter Try.func34, Try.ntmps34
    go_wp2
    go_ret2
    exact ⟨ret_chk (by rw [HE.out]; rfl) (by rw [HE.out]; rfl), Mod.refl _ _⟩
  · have HE : Hid (checkOps l = checkFrom [] l) := Lib.hid (by rw [checkOps, if_neg hbig])
    go_enter Try.func34, Try.ntmps34
    go_wp2
    go_loopw [4] (fun s wr => ∃ j : Nat, s = .int .i64 (j : Int) ∧ j ≤ l.length ∧ Hid (OS wr g (.slice A l.length cap) l) ∧ Hid (Mod [] w wr) ∧ Hid (checkFrom (l.take j) (l.drop j) = checkFrom [] l)) (fun s _ => l.length - (intOf s).toNat)
    case atStart => exact ⟨0, rfl, by omega, HS, Lib.hid (Mod.refl _ _), Lib.hid (by simp)⟩
    case round =>
      obtain ⟨j, rfl, hj, HO, HM, HC⟩ := hrel
      by_cases hjl : j < l.length
      · go_wp2_with fail
        refine (refWrong_any l j hjl g _ wr HO.out).mono ?_
        rintro e' w5 ⟨rfl, hm5⟩
        have HM5 := Lib.hid (HM.out.trans hm5)
        have HO5 : Hid (OS w5 g _ l) := Lib.hid (HO.out.mod hm5 (by simp))
        obtain ⟨x, hx⟩ : ∃ x, wrongOp (l.take j) l[j] = x := ⟨_, rfl⟩
        have HX := Lib.hid hx
        rw [hx]
        clear hx hm5
        by_cases hx0 : x = 0
        · subst hx0
          go_wp2
          go_roundw
          case rel => exact ⟨j + 1, by go_num, by omega, HO5, HM5, Lib.hid ((checkFrom_drop l j hjl HX.out).symm.trans HC.out)⟩
          case measure => simp [intOf]; omega
        · have hxi : ¬ ((x : Int) = 0) := by omega
          have HR : Hid (checkOps l = (x, j)) := Lib.hid (by rw [HE.out, ← HC.out, checkFrom_bad l j hjl (by rw [HX.out]; exact hx0), HX.out])
          go_wp2
          go_ret2
          exact ⟨ret_chk (by rw [HR.out]) (by rw [HR.out]), HM5.out⟩
      · have hje : j = l.length := by omega
        subst hje
        have HR : Hid (checkOps l = (0, 0)) := Lib.hid (by rw [HE.out, ← HC.out]; simp [checkFrom])
        go_wp2
        go_ret2
        exact ⟨ret_chk (by rw [HR.out]; rfl) (by rw [HR.out]; rfl), HM.out⟩
end Go.Proofs.Ytlpjeckhejbkkaa
