/-
  OpBack: what is laid is read again, whatever stands around it; beginnings are short: the law returns true, whatever the world, where the arguments are of bulk at most 1048576.
-/
import Derived.Test.YtdiplliemdogfaaBack
import Derived.Test.YtdiplliemdogfaaOpenB
import Derived.Test.YtdiplliemdogfaaRows
import Derived.JoinedCond
set_option linter.unusedVariables false
namespace Go.Proofs.Ytdiplliemdogfaa
open Go.ChangeShapes Go.WideShapes Go.ChangeAt Go.RowKit

variable {H : Type}
theorem one_bulk (d : DataW H) : 1 ≤ Rows.uptoBulk d := by
  cases d with
  | lit l => cases l <;> simp [Rows.uptoBulk]
  | nil => simp [Rows.uptoBulk]
  | ptr d => simp [Rows.uptoBulk]
  | slice elems spare => simp [Rows.uptoBulk]
  | agg parts => simp [Rows.uptoBulk]
  | iface t d => simp [Rows.uptoBulk]
  | map entries => simp [Rows.uptoBulk]
  | held h => simp [Rows.uptoBulk]
theorem len_bulk (l : List (DataW H)) : l.length ≤ Rows.uptoBulkAll l := by
  induction l with
  | nil => simp [Rows.uptoBulkAll]
  | cons x r ih => have := one_bulk x; simp only [Rows.uptoBulkAll, List.length_cons]; omega
theorem mem_bulk {d : DataW H} {l : List (DataW H)} (h : d ∈ l) : Rows.uptoBulk d ≤ Rows.uptoBulkAll l := by
  induction l with
  | nil => cases h
  | cons x r ih =>
    simp only [Rows.uptoBulkAll]
    rcases List.mem_cons.1 h with e | e
    · subst e; omega
    · have := ih e; omega
theorem upto_bytes {d : DataW H} {ds : List (DataW H)} {l : Bytes} (hk : Rows.uptoSmall H ds = true) (hd : d ∈ ds) (h : l = [] ∨ ∃ es sp : List (DataW H), d = .slice es sp ∧ es.length = l.length) : l.length ≤ 1000000000 := by
  rcases h with rfl | ⟨es, sp, rfl, he⟩
  · simp
  · have h1 : Rows.uptoBulkAll ds ≤ 1048576 := of_decide_eq_true hk
    have h2 := mem_bulk hd
    have h3 := len_bulk es
    simp only [Rows.uptoBulk] at h2
    omega
theorem back_own : ownKnob Try.prog.godebug = none := by kernel_rfl
theorem back_laidOut : laidOutB Try.prog = true := by kernel_rfl
set_option maxRecDepth 100000 in
theorem back_contract (H : Type) (enc : TypeId × Value → H) (W : World) (base : Nat) (args : Array Value) (ds gs : List (DataW H)) (before : List MemPlace)
    (hval0 : ∀ (j : Nat) t v, Try.f9.params[j]? = some t → args[j]? = some v → Value.okWide Try.prog W .any base t v)
    (hW : DataW.Whole enc Try.prog Try.f9.params.toList Rows.opBackSpec.vars false W args.toList ds gs before) (hk : Rows.uptoSmall H (ds ++ gs) = true) :
    Calls Try.prog 9 args W fun e W' => ∃ v, e = .returned v ∧ Rows.opBackSpec.post enc Try.prog Try.f9 false true false false W args v W' := by
  have hval : ∀ (j : Nat) t v, Try.f9.params[j]? = some t → args[j]? = some v → Value.okWide Try.prog W .any base t v := hval0
  have hW' := hW
  obtain ⟨p, q, hA0, hV, rfl, hfz, hnd⟩ := hW
  have hA : DataW.TrodAll enc Try.prog W 0 (fun _ => true) true Try.f9.params.toList args.toList ds p := hA0
  rw [Try.params9] at hA hval
  obtain ⟨v0, vs0, d0, ds0, p0, q0, hargs, rfl, rfl, h0, r0⟩ := trodAll_cons hA
  obtain ⟨v1, vs1, d1, ds1, p1, q1, rfl, rfl, rfl, h1, r1⟩ := trodAll_cons r0
  obtain ⟨v2, vs2, d2, ds2, p2, q2, rfl, rfl, rfl, h2, r2⟩ := trodAll_cons r1
  obtain ⟨rfl, rfl, rfl⟩ := trodAll_nil r2
  obtain rfl : args = #[v0, v1, v2] := by cases args; simp_all
  obtain ⟨rfl, rfl⟩ := trodVars_none hV
  obtain ⟨b0, len0, cap0, rfl⟩ := okWide_slice Try.underlying23 (hval 0 23 v0 rfl rfl)
  have k0 := h0
  have lt0 : ∀ x ∈ p0, x.block < W.heap.size := by obtain ⟨m, hm⟩ := k0; exact DataW.trod_lt m _ _ _ hm
  obtain ⟨g0, l0, w0, n0⟩ : ∃ g l, OS W g (.slice b0 len0 cap0) l ∧ ∀ o ∈ l, o.nums ∧ o.at_.nums := by
    obtain ⟨fuel, hf⟩ := h0
    obtain ⟨v, g, l, hcs, hos, hns⟩ := open_ops hf
    simp [Value.cells] at hcs
    subst hcs
    exact ⟨g, l, hos, hns⟩
  obtain ⟨b1, len1, cap1, rfl⟩ := okWide_slice Try.underlying36 (hval 1 36 v1 rfl rfl)
  have k1 := h1
  have lt1 : ∀ x ∈ p1, x.block < W.heap.size := by obtain ⟨m, hm⟩ := k1; exact DataW.trod_lt m _ _ _ hm
  obtain ⟨g1, x1, w1, z1⟩ : ∃ g l, BS W g (.slice b1 len1 cap1) l ∧ (l = [] ∨ ∃ es sp : List (DataW H), d1 = .slice es sp ∧ es.length = l.length) := by
    obtain ⟨fuel, hf⟩ := h1
    obtain ⟨v, g, l, hcs, hos, hns⟩ := open_bytes hf
    simp [Value.cells] at hcs
    subst hcs
    exact ⟨g, l, hos, hns⟩
  obtain ⟨b2, len2, cap2, rfl⟩ := okWide_slice Try.underlying36 (hval 2 36 v2 rfl rfl)
  have k2 := h2
  have lt2 : ∀ x ∈ p2, x.block < W.heap.size := by obtain ⟨m, hm⟩ := k2; exact DataW.trod_lt m _ _ _ hm
  obtain ⟨g2, x2, w2, z2⟩ : ∃ g l, BS W g (.slice b2 len2 cap2) l ∧ (l = [] ∨ ∃ es sp : List (DataW H), d2 = .slice es sp ∧ es.length = l.length) := by
    obtain ⟨fuel, hf⟩ := h2
    obtain ⟨v, g, l, hcs, hos, hns⟩ := open_bytes hf
    simp [Value.cells] at hcs
    subst hcs
    exact ⟨g, l, hos, hns⟩
  clear hA0 hval0
  simp only [List.append_nil] at hk
  refine (back_any l0 g0 _ x1 x2 g1 g2 _ _ W w0 (fun o ho => (n0 o ho).1) w1 w2 (upto_bytes hk (by simp) z1) (upto_bytes hk (by simp) z2)).mono fun e W' ⟨he, hm⟩ => ?_
  have bel : Below W.heap.size W W' := hm.below (by simp)
  subst he
  exact ⟨_, rfl, _, _, _, [], _, [], hW', trodAll_mk1 (shut_bool Try.underlying4 _), (trodAll_cons_mk (Below.trod back_laidOut (by kernel_rfl) (of_decide_eq_true (by kernel_rfl)) k0 bel lt0) (trodAll_cons_mk (Below.trod back_laidOut (by kernel_rfl) (of_decide_eq_true (by kernel_rfl)) k1 bel lt1) (trodAll_cons_mk (Below.trod back_laidOut (by kernel_rfl) (of_decide_eq_true (by kernel_rfl)) k2 bel lt2) trodAll_mk0))), rfl, bel.frame _, fun h => by cases h⟩
set_option maxRecDepth 100000 in
theorem back_lifted (os : Os) (started : os.Started) (H : Type) (enc : TypeId × Value → H) (F : Stop.Interp) :
    ReturnsInHanded {} Try.checked os 9 .any ((Rows.OpenSpec.upto Rows.opBackSpec).pre6 enc Try.prog Try.f9 Rows.opBackUptoRow.domain false) (((Rows.OpenSpec.upto Rows.opBackSpec).at F).post enc Try.prog Try.f9 false true false false) := by
  refine returnsInHanded_of_cond (C := Try.checked) (s := Rows.OpenSpec.upto Rows.opBackSpec) (k := Rows.uptoSmall) rfl back_own started (by kernel_rfl) Try.func9
    (OpenSpec.witness (enc := enc) (C := Try.checked) (s := Rows.OpenSpec.upto Rows.opBackSpec) (k := Rows.uptoSmall) rfl false ⟨#[], #[.slice none 0 0, .slice none 0 0, .slice none 0 0], []⟩ 8 (by kernel_rfl) (by kernel_rfl) (by kernel_rfl)
      (x := ([.nil, .nil, .nil], [], [])) (by kernel_rfl) rfl (by kernel_rfl)) ?_
  intro W base args ds gs before hval hW _ hk _
  exact back_contract H enc W base args ds gs before hval hW hk
theorem back_over : Rows.opBackUptoRow.holds Try.pinned (Rows.OpenSpec.upto Rows.opBackSpec) :=
  OpenClaim.holds_of_cond 9 Try.f9 rfl rfl rfl rfl rfl rfl rfl ⟨rfl, rfl, rfl, rfl, rfl⟩ rfl rfl rfl rfl rfl (by kernel_rfl) Try.func9 (by kernel_rfl)
    (of_decide_eq_true (by kernel_rfl)) (by unfold Func.isWrapper; first | (rw [if_pos (by decide +kernel)]; kernel_rfl) | (rw [if_neg (by decide +kernel)]; exact ⟨rfl, rfl⟩))
    (fun os started H enc _ F => back_lifted os started H enc F)
theorem opBackUpto : Rows.OpBackUptoSaid := back_over
#print axioms opBackUpto
end Go.Proofs.Ytdiplliemdogfaa
