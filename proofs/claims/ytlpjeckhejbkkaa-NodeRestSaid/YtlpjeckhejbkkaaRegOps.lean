import Derived.Test.YtlpjeckhejbkkaaReg
set_option linter.unusedVariables false
set_option linter.unusedSimpArgs false
set_option maxRecDepth 20000
set_option maxHeartbeats 400000
namespace Go.Proofs.Ytlpjeckhejbkkaa
open Go.RowKit

/-! ### single operations of a region: loads and stores of rows -/
theorem run_load_cells {P : Program} {ty : TypeId} {sz : Nat} (E : RowT P ty sz) {op : Oper} {a : Act} {w : World} (x : Operand) (ho : op.op = .load ty x) {b o : Nat} (hx : a.eval x = .pointer (some ⟨b, o, none⟩)) {cs : List Value} (hl : cs.length = sz) (hc : CellsAt w b o cs) :
    (execOp a.eval op).run P w = .ok (.value (.agg cs.toArray)) w := by
  obtain ⟨d, h1, h2, h3⟩ := E
  unfold execOp
  simp only [ho, hx, Instr.loadAt, Instr.sureAddr, Sem.run_bind, Sem.run_pure, Result.andThen_ok, run_loadVar_mid w b o ty cs d hc h1 h2 (by rw [h3, hl])]
theorem opwp_store_blk {P : Program} {ty : TypeId} {sz : Nat} (E : RowT P ty sz) {op : Oper} {a : Act} {w : World} {K : Act → World → Prop} {Q : Exit → Act → World → Prop} (x y : Operand) (ho : op.op = .store ty x y)
    {g : Nat} (hx : a.eval x = .pointer (some ⟨g, 0, none⟩)) {cells : List Value} (hy : a.eval y = .agg cells.toArray) {t : TypeId} {old : Array Value} (hb : Blk w g t old) (hl : cells.length = sz) (hold : old.size = sz) (h1 : ∀ u ∈ cells, u.oneCell' = true)
    (h : ∀ w', Blk w' g t cells.toArray → Mod [g] w w' → K (a.put op.dst undef) w') : op.wp P a w K Q := by
  obtain ⟨d, _, _, h3⟩ := E
  exact wp_store_row ty x y ho g cells.toArray hx hy t old hb (by rw [h3]; simp [hl]) (by simp [hold, hl]) (all_oneCell_toArray h1) (h _ (setRow_heap w g old _ t _ hb) ((Mod.refl [g] w).setRow g _ (by simp)))
/-- a single operation of a region, by a law on lists of operations -/
theorem opwp_of_list {P : Program} {op : Oper} {a : Act} {w : World} {K : Act → World → Prop} {Q : Exit → Act → World → Prop} (hg : op.guard = none)
    (h : ∀ Q' : Exit → Act → World → Prop, (∀ a w, K a w → Q' .normal a w) → wpList P #[] Q' [op] a w) : op.wp P a w K Q := by
  have h' := h (fun e a w => e = .normal ∧ K a w) (fun a w k => ⟨rfl, k⟩)
  unfold wpList at h'
  rw [if_pos (by unfold Region.wanted; rw [hg])] at h'
  rcases h' with h' | ⟨_, a', w', hl, _⟩
  · unfold Oper.wp at *
    generalize (execOp a.eval op).run P w = r at *
    cases r with
    | ok n w' =>
      cases n <;> simp only [Oper.upon] at h' ⊢ <;>
        first
          | exact h'.2
          | exact Calls.mono h' (fun e w'' he => by
              cases e with
              | returned v => exact he.2
              | panicked c => exact absurd he.1 (by simp)
              | outgrown => obtain ⟨_, _, h1, _⟩ := he; exact absurd h1 (by simp))
          | exact Rows.mono h' (fun _ _ he => he.2)
          | exact h'
    | halt x w' =>
      cases x <;> simp only [Oper.upon] at h' ⊢ <;> first | exact absurd h'.1 (by simp) | exact h'
  · cases hl
/-- only blocks from that number on are changed -/
def From (n : Nat) (w w' : World) : Prop := ∃ S, (∀ b ∈ S, n ≤ b) ∧ Mod S w w'
theorem From.refl (n : Nat) (w : World) : From n w w := ⟨[], by simp, Mod.refl _ _⟩
theorem From.trans {n : Nat} {a b c : World} (h : From n a b) (k : From n b c) : From n a c := by
  obtain ⟨S, h1, h2⟩ := h
  obtain ⟨T, k1, k2⟩ := k
  exact ⟨S ++ T, fun b hb => (List.mem_append.1 hb).elim (h1 b) (k1 b), (h2.mono (by simp_all)).trans (k2.mono (by simp_all))⟩
theorem preFrom (n : Nat) : PreE (From n) := ⟨From.refl n, fun _ _ _ h k => h.trans k⟩
theorem From.of {n : Nat} {S : List Nat} {w w' : World} (h : Mod S w w') (hS : ∀ b ∈ S, n ≤ b) : From n w w' := ⟨S, hS, h⟩
theorem From.new {w w' : World} (h : From w.heap.size w w') : Mod [] w w' := by
  obtain ⟨S, h1, h2⟩ := h
  exact (Mod.refl [] w).then h2 (fun b hb => .inr (h1 b hb))
theorem From.size {n : Nat} {w w' : World} (h : From n w w') : w.heap.size ≤ w'.heap.size := h.choose_spec.2.size
end Go.Proofs.Ytlpjeckhejbkkaa
