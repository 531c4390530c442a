import Derived.Test.YtdiplliemdogfaaKeepG
set_option linter.unusedVariables false
set_option linter.unusedSimpArgs false
set_option maxRecDepth 20000
set_option maxHeartbeats 800000
namespace Go.Proofs.Ytdiplliemdogfaa
open Go.RowKit

theorem flatMap_set (l : List GOp) : ∀ (i j : Nat) (u : Value) (o' : GOp) (hi : i < l.length), j < 37 → o'.cells = l[i].cells.set j u → (l.flatMap GOp.cells).set (i * 37 + j) u = (l.set i o').flatMap GOp.cells := by
  induction l with
  | nil => intro i j u o' hi; simp at hi
  | cons o l ih =>
    intro i j u o' hi hj he
    have hol : o.cells.length = 37 := o.cells_length
    cases i with
    | zero =>
      simp only [List.getElem_cons_zero] at he
      simp only [List.flatMap_cons, List.set_cons_zero, Nat.zero_mul, Nat.zero_add]
      rw [List.set_append_left j u (by omega), he]
    | succ i =>
      simp only [List.getElem_cons_succ] at he
      simp only [List.length_cons] at hi
      simp only [List.flatMap_cons, List.set_cons_succ]
      rw [List.set_append_right ((i + 1) * 37 + j) u (by omega), hol, show (i + 1) * 37 + j - 37 = i * 37 + j by omega, ih i j u o' (by omega) hj he]
theorem cells_len (l : List GOp) : (l.flatMap GOp.cells).length = l.length * 37 := by
  induction l with
  | nil => rfl
  | cons o l ih => rw [List.flatMap_cons, List.length_append, ih, GOp.cells_length, List.length_cons]; omega
/-- a beginning of a list of its own -/
theorem OwnO.cut {w : World} {g c n : Nat} {l r : List GOp} (h : OwnO w (.slice (some ⟨g, 0, none⟩) n c) (l ++ r)) : OwnO w (.slice (some ⟨g, 0, none⟩) l.length c) l := by
  obtain ⟨hl, hc⟩ := h
  rcases hc with ⟨h1, _⟩ | ⟨g', cap', cur, he, hb, hg, h1, h2, h3, h4⟩
  · cases h1
  injection he with he1 he2 he3
  injection he1 with he1
  injection he1 with he1
  subst he1 he3
  have hll := cells_len l
  refine ⟨hll, .inr ⟨g, c, cur, rfl, Nat.zero_le _, hg, by simp at h1; omega, h2, h3, ?_⟩⟩
  rw [List.flatMap_append] at h4
  have h5 := congrArg (List.take (l.length * 37)) h4
  rw [List.take_take, Nat.min_eq_left (by simp; omega), ← hll, List.take_left] at h5
  rw [← hll]
  exact h5
theorem OwnO.frozen {w : World} {g c n : Nat} {l : List GOp} (h : OwnO w (.slice (some ⟨g, 0, none⟩) n c) l) : (∀ i, w.frozen? ⟨g, i, none⟩ = false) ∧ g < w.heap.size := by
  obtain ⟨hl, hc⟩ := h
  rcases hc with ⟨h1, _⟩ | ⟨g', cap', cur, he, hb, hg, h1, h2, h3, h4⟩
  · cases h1
  injection he with he1 he2 he3
  injection he1 with he1
  injection he1 with he1
  subst he1
  have hB : Blk w g 33 cur := hg
  exact ⟨fun i => hB.frozen i, hB.lt⟩
/-- a cell of an element of a list of its own is written -/
theorem OwnO.setCell {w : World} {g c n : Nat} {l : List GOp} (h : OwnO w (.slice (some ⟨g, 0, none⟩) n c) l) {i j : Nat} {u : Value} {o' : GOp} (hi : i < l.length) (hj : j < 37) (he : o'.cells = l[i].cells.set j u) :
    OwnO (w.setCell ⟨g, i * 37 + j, none⟩ u) (.slice (some ⟨g, 0, none⟩) n c) (l.set i o') := by
  obtain ⟨hl, hc⟩ := h
  rcases hc with ⟨h1, _⟩ | ⟨g', cap', cur, he', hb, hg, h1, h2, h3, h4⟩
  · cases h1
  injection he' with he1 he2 he3
  injection he1 with he1
  injection he1 with he1
  subst he1 he3 he2
  have hB : Blk w g 33 cur := hg
  have hv := hB.set_ (i * 37 + j) u
  have hfm := flatMap_set l i j u o' hi hj he
  refine ⟨by rw [← hfm]; simp at hl ⊢; exact hl, .inr ⟨g, c, _, by simp, Nat.zero_le _, hv, by simpa using h1, h2, by simpa using h3, ?_⟩⟩
  rw [← hfm, ← h4]
  simp [List.take_set]
/-- a slice literal of two values of sz cells -/
theorem run_buildSlice2 {P : Program} {t e : TypeId} {sz bytes : Nat} (E : ElemT P t e sz bytes) (hsz : sz ≤ 1000000) {v u : Value} (hv : v.cells.size = sz) (hu : u.cells.size = sz) (w : World) :
    (Instr.buildSlice t 2 #[(0, v), (1, u)]).run P w = .ok (.slice (some ⟨w.heap.size, 0, none⟩) 2 2) (w.alloc (.cells (v.cells ++ u.cells) e)) := by
  obtain ⟨i, z, ht, hi, hz, hs, hb, hzs, h0⟩ := E
  have hsize : (sizeOf e).run P w = .ok sz w := by simp [sizeOf, typeInfo, hi, hs]
  have hzero : (zeroValue e).run P w = .ok z w := by simp [zeroValue, typeInfo, hi, hz]
  have hf : Instr.fill (fun i => some (i * sz, sz)) ((Array.range (2 * sz)).map (z.cells[· % z.cells.size]!)) [(0, v), (1, u)] = some (v.cells ++ u.cells) := by
    rw [fill_one 0 sz v _ hv (by simp; omega) [(1, u)] _ 0 (by simp), fill_one sz sz u _ hu (by simp [hv]; omega) [] _ 1 (by simp)]
    have hv' : v.cells.toList.length = sz := by simpa using hv
    simp [Instr.fill]
    rw [List.take_left' hv', List.drop_of_length_le (by simp; omega), List.append_nil]
  have h1 : ¬ (2 * sz > 2 ^ 24) := by omega
  have h2 : ¬ (2 * sz = 0) := by omega
  simp only [Instr.buildSlice, Sem.run_bind, run_underlying ht, Result.andThen_ok, hsize, h1, h2, if_false, hzero, Sem.run_pure]
  simp only [hf]
  simp [newRow, Sem.run_bind]
theorem wpList_buildSlice2_op {ops : Array Oper} {rest : List Oper} {op : Oper} {a : Act} {w : World} {Q : Exit → Act → World → Prop} (x y : Operand) (ho : op.op = .buildSlice 23 2 #[(0, x), (1, y)]) (hgd : Region.wanted op (yielded ops a.tmps) = true) {o o' : GOp} (hx : a.eval x = o.val) (hy : a.eval y = o'.val)
    (h : ∀ g w1, OS w1 g (.slice (some ⟨g, 0, none⟩) 2 2) [o, o'] → Mod [] w w1 → w.heap.size ≤ g → g < w1.heap.size → wpList Try.prog ops Q rest (a.put op.dst (.slice (some ⟨g, 0, none⟩) 2 2)) w1) : wpList Try.prog ops Q (op :: rest) a w := by
  refine BigFrame.wpList_want hgd fun K hK => ?_
  have hr := run_buildSlice2 etOps (by omega) (v := o.val) (u := o'.val) (by simp [GOp.val, Value.cells, GOp.cells_length]) (by simp [GOp.val, Value.cells, GOp.cells_length]) w
  unfold Oper.wp execOp
  simp only [ho, Sem.run_bind, List.map_toArray, List.map_cons, List.map_nil, hx, hy, hr, Result.andThen_ok, Sem.run_pure]
  refine hK _ _ (h _ _ ?_ ((Mod.refl [] w).alloc _) (Nat.le_refl _) (by simp))
  refine ⟨by simp [GOp.cells_length], _, 2, rfl, by simp, by decide, fun _ => ⟨0, rfl, by simp, fun i u hu => ?_⟩⟩
  rw [Nat.zero_add, (Blk.new w 33 (o.val.cells ++ o'.val.cells)).cell i]
  simp [GOp.val, Value.cells] at hu ⊢
  exact hu
end Go.Proofs.Ytdiplliemdogfaa
