import Derived.Test.YtlpjeckhejbkkaaMem
set_option linter.unusedVariables false
set_option linter.unusedSimpArgs false
set_option maxRecDepth 20000
set_option maxHeartbeats 400000
namespace Go.Proofs.Ytlpjeckhejbkkaa
open Go.RowKit

/-! ### literals of structs and of slices, cell by cell -/
theorem foldl_set (l : List Value) : ∀ (k off : Nat) (base : Array Value), off + k + l.length ≤ base.size →
    ((l.zipIdx k).foldl (fun (cs : Array Value) (x : Value × Nat) => cs.setIfInBounds (off + x.2) x.1) base).toList = base.toList.take (off + k) ++ l ++ base.toList.drop (off + k + l.length) := by
  induction l with
  | nil => intro k off base h; simp
  | cons c l ih =>
    intro k off base h
    simp only [List.length_cons] at h ⊢
    rw [List.zipIdx_cons, List.foldl_cons, ih (k + 1) off _ (by simp; omega)]
    simp only [Array.toList_setIfInBounds]
    have hk : off + k < base.toList.length := by simp; omega
    have e1 : (base.toList.set (off + k) c).take (off + (k + 1)) = base.toList.take (off + k) ++ [c] := by
      rw [show off + (k + 1) = off + k + 1 by omega, List.take_succ_eq_append_getElem (by simpa using hk)]
      rw [List.getElem_set_self, List.take_set_of_le (Nat.le_refl _)]
    have e2 : (base.toList.set (off + k) c).drop (off + (k + 1) + l.length) = base.toList.drop (off + k + (l.length + 1)) := by
      rw [List.drop_set_of_lt (by omega)]
      congr 1
      omega
    rw [e1, e2]
    simp
theorem fill_one (off sz : Nat) (v : Value) (base : Array Value) (hs : v.cells.size = sz) (h : off + sz ≤ base.size) (rest : List (Nat × Value)) (place : Nat → Option (Nat × Nat)) (i : Nat) (hp : place i = some (off, sz)) :
    Instr.fill place base ((i, v) :: rest) = Instr.fill place (base.toList.take off ++ v.cells.toList ++ base.toList.drop (off + sz)).toArray rest := by
  have e : v.cells.zipIdx.foldl (fun cs (c, j) => cs.setIfInBounds (off + j) c) base = (base.toList.take off ++ v.cells.toList ++ base.toList.drop (off + sz)).toArray := by
    apply Array.toList_inj.1
    have := foldl_set v.cells.toList 0 off base (by simp; omega)
    simp only [Nat.add_zero, Array.length_toList, hs] at this
    rw [← this, ← Array.foldl_toList, Array.toList_zipIdx]
  rw [Instr.fill, hp]
  simp only
  rw [if_neg (by simp; omega), e]
/-- a slice literal of one value of sz cells -/
theorem run_buildSlice1 {P : Program} {t e : TypeId} {sz bytes : Nat} (E : ElemT P t e sz bytes) (hsz : sz ≤ 16777216) {v : Value} (hv : v.cells.size = sz) (w : World) :
    (Instr.buildSlice t 1 #[(0, v)]).run P w = .ok (.slice (some ⟨w.heap.size, 0, none⟩) 1 1) (w.alloc (.cells v.cells e)) := by
  obtain ⟨i, z, ht, hi, hz, hs, hb, hzs, h0⟩ := E
  have hsize : (sizeOf e).run P w = .ok sz w := by simp [sizeOf, typeInfo, hi, hs]
  have hzero : (zeroValue e).run P w = .ok z w := by simp [zeroValue, typeInfo, hi, hz]
  have hf : Instr.fill (fun i => some (i * sz, sz)) ((Array.range (1 * sz)).map (z.cells[· % z.cells.size]!)) [(0, v)] = some v.cells := by
    rw [fill_one 0 sz v _ hv (by simp) [] _ 0 (by simp)]
    simp [Instr.fill]
    rw [List.drop_of_length_le (by simp)]
    simp
  have h1 : ¬ (1 * sz > 2 ^ 24) := by omega
  have h2 : ¬ (1 * sz = 0) := by omega
  simp only [Instr.buildSlice, Sem.run_bind, run_underlying ht, Result.andThen_ok, hsize, h1, h2, if_false, hzero, Sem.run_pure]
  simp only [hf]
  simp [newRow, Sem.run_bind]
theorem RS.ofNew {w : World} {e : TypeId} {sz : Nat} {cs : List Value} (h : cs.length = sz) : RS (w.alloc (.cells cs.toArray e)) sz w.heap.size (.slice (some ⟨w.heap.size, 0, none⟩) 1 1) 1 cs := by
  refine ⟨by omega, _, 1, rfl, by omega, by decide, fun _ => ⟨0, rfl, by simp, fun i u hu => ?_⟩⟩
  rw [Nat.zero_add, (Blk.new w e cs.toArray).cell i]
  simpa using hu
theorem wpList_buildSlice1 {P : Program} {t e : TypeId} {sz bytes : Nat} (E : ElemT P t e sz bytes) (hsz : sz ≤ 16777216) {ops : Array Oper} {rest : List Oper} {op : Oper} {a : Act} {w : World} {Q : Exit → Act → World → Prop} (x : Operand) (ho : op.op = .buildSlice t 1 #[(0, x)]) (hgd : Region.wanted op (yielded ops a.tmps) = true) {v : Value} {cs : List Value} (hv : v.cells = cs.toArray) (hc : cs.length = sz) (hx : a.eval x = v)
    (h : ∀ g w1, RS w1 sz g (.slice (some ⟨g, 0, none⟩) 1 1) 1 cs → Blk w1 g e cs.toArray → Mod [] w w1 → w.heap.size ≤ g → g < w1.heap.size → wpList P ops Q rest (a.put op.dst (.slice (some ⟨g, 0, none⟩) 1 1)) w1) : wpList P ops Q (op :: rest) a w := by
  refine BigFrame.wpList_want hgd fun K hK => ?_
  have hr := run_buildSlice1 E hsz (v := v) (by rw [hv]; simpa using hc) w
  rw [hv] at hr
  unfold Oper.wp execOp
  simp only [ho, Sem.run_bind, List.map_toArray, List.map_cons, List.map_nil, hx, hr, Result.andThen_ok, Sem.run_pure]
  exact hK _ _ (h _ _ (RS.ofNew hc) (Blk.new w e _) ((Mod.refl [] w).alloc _) (Nat.le_refl _) (by simp))
end Go.Proofs.Ytlpjeckhejbkkaa
