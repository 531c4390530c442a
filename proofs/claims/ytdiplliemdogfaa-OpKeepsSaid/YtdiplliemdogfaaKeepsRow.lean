/-
  OpKeeps: what is handed in stays, room and all; what comes out is new memory; the same list, written over and asked again, is answered as it is then: the law returns true, whatever the world; no condition.
-/
import Derived.Test.YtdiplliemdogfaaKeeps
import Derived.Test.YtdiplliemdogfaaOpenK
import Derived.Test.YtdiplliemdogfaaRows
set_option linter.unusedVariables false
namespace Go.Proofs.Ytdiplliemdogfaa
open Go.ChangeShapes Go.WideShapes Go.ChangeAt Go.RowKit

theorem keeps_own : ownKnob Try.prog.godebug = none := by kernel_rfl
theorem keeps_laidOut : laidOutB Try.prog = true := by kernel_rfl
set_option maxRecDepth 100000 in
theorem keeps_lifted (os : Os) (started : os.Started) (H : Type) (enc : TypeId × Value → H) :
    ReturnsInHanded {} Try.checked os 7 .any (Rows.opKeepsSpec.pre6 enc Try.prog Try.f7 Rows.opKeepsRow.domain false) (Rows.opKeepsSpec.post enc Try.prog Try.f7 false true false false) := by
  refine returnsInHanded_of_change_sized (C := Try.checked) keeps_own started (by kernel_rfl) Try.func7
    (ChangeSpec.witness6 (enc := enc) (C := Try.checked) false ⟨#[], #[.slice none 0 0, .slice none 0 0], []⟩ 8 (by kernel_rfl) (by kernel_rfl) (by kernel_rfl) (by kernel_rfl)) ?_
  intro W base args ds gs before hval0 hW hcnd hsz0 _
  have hsz : (DataW.weightsEach Try.prog (Try.f7.params.toList ++ Rows.opKeepsSpec.plain.varTypes Try.prog) (ds ++ gs)).all (· ≤ reachBytes) = true := hsz0
  clear hsz0
  have hval : ∀ (j : Nat) t v, Try.f7.params[j]? = some t → args[j]? = some v → Value.okWide Try.prog W .any base t v := hval0
  have hW' := hW
  obtain ⟨p, q, hA0, hV, rfl, hfz, hnd⟩ := hW
  have hA : DataW.TrodAll enc Try.prog W 0 (fun _ => true) true Try.f7.params.toList args.toList ds p := hA0
  rw [Try.params7] at hA hval hsz
  obtain ⟨v0, vs0, d0, ds0, p0, q0, hargs, rfl, rfl, h0, r0⟩ := trodAll_cons hA
  obtain ⟨v1, vs1, d1, ds1, p1, q1, rfl, rfl, rfl, h1, r1⟩ := trodAll_cons r0
  obtain ⟨rfl, rfl, rfl⟩ := trodAll_nil r1
  obtain rfl : args = #[v0, v1] := by cases args; simp_all
  obtain ⟨rfl, rfl⟩ := trodVars_none hV
  obtain ⟨b0, len0, cap0, rfl⟩ := okWide_slice Try.underlying23 (hval 0 23 v0 rfl rfl)
  have k0 := h0
  have lt0 : ∀ x ∈ p0, x.block < W.heap.size := by obtain ⟨m, hm⟩ := k0; exact DataW.trod_lt m _ _ _ hm
  obtain ⟨g0, l0, w0, n0, s0⟩ : ∃ g l, OS W g (.slice b0 len0 cap0) l ∧ (∀ o ∈ l, o.nums ∧ o.at_.nums) ∧ l.length ≤ 1700000000000 ∧ ∀ o ∈ l, o.key.size ≤ 140737488351232 := by
    obtain ⟨fuel, hf⟩ := h0
    obtain ⟨v, g, l, hcs, hos, hns, hsh⟩ := open_opsk hf
    simp [Value.cells] at hcs
    subst hcs
    exact ⟨g, l, hos, hns, ops_short hsz (j := 0) rfl rfl hsh⟩
  obtain ⟨b1, len1, cap1, rfl⟩ := okWide_slice Try.underlying36 (hval 1 36 v1 rfl rfl)
  have k1 := h1
  have lt1 : ∀ x ∈ p1, x.block < W.heap.size := by obtain ⟨m, hm⟩ := k1; exact DataW.trod_lt m _ _ _ hm
  obtain ⟨g1, x1, w1, z1⟩ : ∃ g l, BS W g (.slice b1 len1 cap1) l ∧ l.length ≤ 140737488351232 := by
    obtain ⟨fuel, hf⟩ := h1
    obtain ⟨v, g, l, hcs, hos, hns⟩ := open_bytes hf
    simp [Value.cells] at hcs
    subst hcs
    exact ⟨g, l, hos, bytes_short (P := Try.prog) hsz (j := 1) rfl rfl hns⟩
  clear hA0 hval0
  refine (keeps_any l0 g0 _ x1 g1 _ W w0 (fun o ho => (n0 o ho).1) s0.1 (fun o ho => Nat.le_trans (s0.2 o ho) (by omega)) w1 (by omega)).mono fun e W' ⟨he, hm⟩ => ?_
  have bel : Below W.heap.size W W' := hm.below (by simp)
  subst he
  exact ⟨_, rfl, _, _, _, [], _, [], hW', trodAll_mk1 (shut_bool Try.underlying4 _), (trodAll_cons_mk (Below.trod keeps_laidOut (by kernel_rfl) (of_decide_eq_true (by kernel_rfl)) k0 bel lt0) (trodAll_cons_mk (Below.trod keeps_laidOut (by kernel_rfl) (of_decide_eq_true (by kernel_rfl)) k1 bel lt1) trodAll_mk0)), rfl, bel.frame _, fun h => by cases h⟩
theorem keeps_over : Rows.opKeepsRow.holds Try.pinned (OpenSpec.ofChange Rows.opKeepsSpec) :=
  OpenClaim.holds_of_wide 7 Try.f7 rfl rfl rfl rfl rfl rfl rfl ⟨rfl, rfl, rfl, rfl, rfl⟩ rfl rfl rfl rfl rfl (by kernel_rfl) Try.func7 (by kernel_rfl)
    (of_decide_eq_true (by kernel_rfl)) (by unfold Func.isWrapper; first | (rw [if_pos (by decide +kernel)]; kernel_rfl) | (rw [if_neg (by decide +kernel)]; exact ⟨rfl, rfl⟩))
    (fun os started H enc _ => keeps_lifted os started H enc)
theorem opKeeps : Rows.OpKeepsSaid := keeps_over
#print axioms opKeeps
end Go.Proofs.Ytdiplliemdogfaa
