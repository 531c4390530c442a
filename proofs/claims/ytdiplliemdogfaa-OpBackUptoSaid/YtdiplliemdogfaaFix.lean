import Derived.Test.YtdiplliemdogfaaPut
set_option linter.unusedVariables false
set_option linter.unusedSimpArgs false
set_option maxRecDepth 20000
set_option maxHeartbeats 400000
namespace Go.Proofs.Ytdiplliemdogfaa
open Go.RowKit

theorem OS.new (w : World) (l : List GOp) (hl : l.length ≤ 1000) : OS (w.alloc (.cells (l.flatMap GOp.cells).toArray 33)) w.heap.size (.slice (some ⟨w.heap.size, 0, none⟩) l.length l.length) l := by
  refine ⟨flat_length _ _ GOp.cells_length l, _, _, rfl, Nat.le_refl _, by unfold maxLen; omega, fun _ => ⟨0, rfl, by simp, fun i u hu => ?_⟩⟩
  rw [Nat.zero_add, (Blk.new w _ _).cell i]
  simpa using hu
def fa : GOp := ⟨1, ⟨#[107]⟩, ⟨#[118]⟩, 0, GIdent.zero⟩
def fb : GOp := ⟨10, ⟨#[]⟩, ⟨#[]⟩, 0, GIdent.zero⟩
def fc : GOp := ⟨6, ⟨#[107]⟩, ⟨#[]⟩, -1, GIdent.zero⟩
theorem chk_ab : checkOps [fa, fb] = (40, 1) := by decide +kernel
theorem chk_c : checkOps [fc] = (0, 0) := by decide +kernel
theorem put_c : putOps [fc] = [1, 6, 1, 107, 1] := by
  have h1 : putNum 1 = [1] := putNum_lt (by omega)
  have h2 : zig (-1) = 1 := by decide
  have h3 : putNum (ByteArray.size ⟨#[107]⟩) = [1] := h1
  simp [putOps, putOp, fc, hasText, hasAt, putText, h1, h2, h3]
theorem fixed_any (w : World) : Calls Try.prog 10 #[] w fun e w' => e = .returned (.bool true) ∧ Mod [] w w' := by
  go_enter Try.func10, Try.ntmps10
  go_wp2_with fail
  have h1 := check_any [fa, fb] w.heap.size _ _ (OS.new w [fa, fb] (by decide))
  rw [chk_ab] at h1
  refine h1.mono ?_
  rintro e' w1 ⟨rfl, hm1⟩
  have HM1 := Lib.hid (((Mod.refl [] w).alloc _).trans hm1)
  clear h1 hm1
  go_wp2_with fail
  refine (newOut_any w1).mono ?_
  rintro e' w2 ⟨rfl, hO2, hm2⟩
  have HO2 := Lib.hid hO2
  have HM2 := Lib.hid hm2
  clear hO2 hm2
  go_wp2_with fail
  have h3 := put_any [fc] w2.heap.size _ w1.heap.size [w1.heap.size] [] _ (HO2.out.mod ((Mod.refl [] w2).alloc _) (by simp)) (OS.new w2 [fc] (by decide)) (fun _ => by have := HO2.out.lt; simp; omega) (by intro o ho; rw [List.mem_singleton.1 ho]; unfold GOp.nums; decide) (by simp)
  unfold PutP at h3
  rw [chk_c, if_pos rfl, put_c] at h3
  refine h3.mono ?_
  rintro e' w3 ⟨rfl, F3, hO3, hm3, hf3⟩
  have HO3 : Hid (OutB w3 w1.heap.size F3 [1, 6, 1, 107, 1]) := Lib.hid hO3
  have HM3 : Hid (Mod [] w w3) := Lib.hid ((HM1.out.trans HM2.out).then (((Mod.refl _ w2).alloc _).trans hm3) (by simp; have := HM1.out.size; omega))
  clear h3 hO3 hm3 hf3 HO2 HM1 HM2
  go_wp2_with fail
  refine (outDone_any _ F3 _ w3 HO3.out (by simp)).mono ?_
  rintro e' w4 ⟨v, rfl, hown, hm4, _⟩
  obtain ⟨g4, hbs, _⟩ := hown.bs
  have hcv := run_str hbs
  have HM4 := Lib.hid (HM3.out.trans hm4)
  clear hown hbs hm4
  go_wp2
  go_ret
  exact ⟨rfl, HM4.out⟩
theorem names_any (w : World) : Calls Try.prog 3 #[] w fun e w' => e = .returned (.bool true) ∧ Mod [] w w' := by
  go_enter Try.func3, Try.ntmps3
  go_wp2_with fail
  refine (fixed_any _).mono ?_
  rintro e' w1 ⟨rfl, hm1⟩
  have HM := Lib.hid hm1
  clear hm1
  go_wp2
  go_ret
  exact ⟨rfl, HM.out⟩
end Go.Proofs.Ytdiplliemdogfaa
