/-
  NodeRest: a block with more behind it, or without its last bytes, is none, and the error says so and where: the law returns true, whatever the transaction, the bytes and the number; no condition.
-/
import Derived.Test.YtlpjeckhejbkkaaNRest
import Derived.Test.YtlpjeckhejbkkaaOpenN
import Derived.Test.YtlpjeckhejbkkaaRows
set_option linter.unusedVariables false
namespace Go.Proofs.Ytlpjeckhejbkkaa
open Go.ChangeShapes Go.WideShapes Go.ChangeAt Go.RowKit

theorem nrest_own : ownKnob Try.prog.godebug = none := by kernel_rfl
theorem nrest_laidOut : laidOutB Try.prog = true := by kernel_rfl
set_option maxRecDepth 100000 in
theorem nrest_lifted (os : Os) (started : os.Started) (H : Type) (enc : TypeId × Value → H) :
    ReturnsInHanded {} Try.checked os 4 .any (Rows.nodeRestSpec.pre6 enc Try.prog Try.f4 Rows.nodeRestRow.domain false) (Rows.nodeRestSpec.post enc Try.prog Try.f4 false true false false) := by
  refine returnsInHanded_of_change_sized (C := Try.checked) nrest_own started (by kernel_rfl) Try.func4
    (ChangeSpec.witness6 (enc := enc) (C := Try.checked) false ⟨#[], #[.agg #[.int .i64 0, .int .i64 0, .slice none 0 0, .slice none 0 0], .slice none 0 0, .int .i64 0], []⟩ 8 (by kernel_rfl) (by kernel_rfl) (by kernel_rfl) (by kernel_rfl)) ?_
  intro W base args ds gs before hval0 hW hcnd hsz0 _
  have hsz : (DataW.weightsEach Try.prog (Try.f4.params.toList ++ Rows.nodeRestSpec.plain.varTypes Try.prog) (ds ++ gs)).all (· ≤ reachBytes) = true := hsz0
  clear hsz0
  have hval : ∀ (j : Nat) t v, Try.f4.params[j]? = some t → args[j]? = some v → Value.okWide Try.prog W .any base t v := hval0
  have hW' := hW
  obtain ⟨p, q, hA0, hV, rfl, hfz, hnd⟩ := hW
  have hA : DataW.TrodAll enc Try.prog W 0 (fun _ => true) true Try.f4.params.toList args.toList ds p := hA0
  rw [Try.params4] at hA hval hsz
  obtain ⟨v0, vs0, d0, ds0, p0, q0, hargs, rfl, rfl, h0, r0⟩ := trodAll_cons hA
  obtain ⟨v1, vs1, d1, ds1, p1, q1, rfl, rfl, rfl, h1, r1⟩ := trodAll_cons r0
  obtain ⟨v2, vs2, d2, ds2, p2, q2, rfl, rfl, rfl, h2, r2⟩ := trodAll_cons r1
  obtain ⟨rfl, rfl, rfl⟩ := trodAll_nil r2
  obtain rfl : args = #[v0, v1, v2] := by cases args; simp_all
  obtain ⟨rfl, rfl⟩ := trodVars_none hV
  obtain ⟨cs0, rfl, len0⟩ := okWide_struct Try.underlying26 (hval 0 26 v0 rfl rfl)
  have k0 := h0
  have lt0 : ∀ x ∈ p0, x.block < W.heap.size := by obtain ⟨m, hm⟩ := k0; exact DataW.trod_lt m _ _ _ hm
  obtain ⟨n0, gp0, go0, pv0, ov0, rfl, w0, s0⟩ : ∃ (n : GNode) (gp go : Nat) (pv ov : Value), cs0 = (nodeL n.author n.clock pv ov).toArray ∧ NodR W n gp go pv ov ∧ ∀ o ∈ n.ops, o.nums := by
    obtain ⟨fuel, hf⟩ := h0
    obtain ⟨n, gp, go, pv, ov, hcs, hr, hns⟩ := open_node hf
    exact ⟨n, gp, go, pv, ov, by rw [← hcs]; simp [Value.cells], hr, hns⟩
  obtain ⟨b1, len1, cap1, rfl⟩ := okWide_slice Try.underlying27 (hval 1 27 v1 rfl rfl)
  have k1 := h1
  have lt1 : ∀ x ∈ p1, x.block < W.heap.size := by obtain ⟨m, hm⟩ := k1; exact DataW.trod_lt m _ _ _ hm
  obtain ⟨g1, x1, w1, z1⟩ : ∃ g l, BS W g (.slice b1 len1 cap1) l ∧ l.length ≤ 140737488351232 := by
    obtain ⟨fuel, hf⟩ := h1
    obtain ⟨v, g, l, hcs, hos, hns⟩ := open_bytes hf
    simp [Value.cells] at hcs
    subst hcs
    exact ⟨g, l, hos, bytes_short (P := Try.prog) hsz (j := 1) rfl rfl hns⟩
  obtain ⟨a2, rfl, rfl, rfl, w2⟩ := open_int Try.underlying3 (hval 2 3 v2 rfl rfl) h2
  clear hA0 hval0
  refine (nodeRest_any n0 gp0 go0 pv0 ov0 x1 g1 _ a2 W w0 s0 w1 (by omega)).mono fun e W' ⟨he, hm⟩ => ?_
  have bel : Below W.heap.size W W' := hm.below (by simp)
  subst he
  exact ⟨_, rfl, _, _, _, [], _, [], hW', trodAll_mk1 (shut_bool Try.underlying4 _), (trodAll_cons_mk (Below.trod nrest_laidOut (by kernel_rfl) (of_decide_eq_true (by kernel_rfl)) k0 bel lt0) (trodAll_cons_mk (Below.trod nrest_laidOut (by kernel_rfl) (of_decide_eq_true (by kernel_rfl)) k1 bel lt1) (trodAll_cons_mk (shut_int Try.underlying3 w2) trodAll_mk0))), rfl, bel.frame _, fun h => by cases h⟩
theorem nrest_over : Rows.nodeRestRow.holds Try.pinned (OpenSpec.ofChange Rows.nodeRestSpec) :=
  OpenClaim.holds_of_wide 4 Try.f4 rfl rfl rfl rfl rfl rfl rfl ⟨rfl, rfl, rfl, rfl, rfl⟩ rfl rfl rfl rfl rfl (by kernel_rfl) Try.func4 (by kernel_rfl)
    (of_decide_eq_true (by kernel_rfl)) (by unfold Func.isWrapper; first | (rw [if_pos (by decide +kernel)]; kernel_rfl) | (rw [if_neg (by decide +kernel)]; exact ⟨rfl, rfl⟩))
    (fun os started H enc _ => nrest_lifted os started H enc)
theorem nodeRest : Rows.NodeRestSaid := nrest_over
#print axioms nodeRest
end Go.Proofs.Ytlpjeckhejbkkaa
