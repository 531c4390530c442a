import Derived.Test.YtlpjeckhejbkkaaPut
set_option linter.unusedVariables false
set_option linter.unusedSimpArgs false
set_option maxRecDepth 20000
set_option maxHeartbeats 400000
namespace Go.Proofs.Ytlpjeckhejbkkaa
open Go.RowKit

theorem OS.new (w : World) (l : List GOp) (hl : l.length ≤ 1000) : OS (w.alloc (.cells (l.flatMap GOp.cells).toArray 74)) w.heap.size (.slice (some ⟨w.heap.size, 0, none⟩) l.length l.length) l := by
  refine ⟨flat_length _ _ GOp.cells_length l, _, _, rfl, Nat.le_refl _, by unfold maxLen; omega, fun _ => ⟨0, rfl, by simp, fun i u hu => ?_⟩⟩
  rw [Nat.zero_add, (Blk.new w _ _).cell i]
  simpa using hu
def fa : GOp := ⟨1, ⟨#[107]⟩, ⟨#[118]⟩, 0, GIdent.zero⟩
def fb : GOp := ⟨10, ⟨#[]⟩, ⟨#[]⟩, 0, GIdent.zero⟩
def fc : GOp := ⟨6, ⟨#[107]⟩, ⟨#[]⟩, -1, GIdent.zero⟩
theorem chk_ab : checkOps [fa, fb] = (40, 1) := by decide +kernel
theorem chk_c : checkOps [fc] = (0, 0) := by decide +kernel
theorem put_c : putOps [fc] = [1, 6, 1, 107, 1] := by
  have h1 : putNum 1 = [1] := putNum_lt (by omega)
  have h2 : zig (-1) = 1 := by decide
  have h3 : putNum (ByteArray.size ⟨#[107]⟩) = [1] := h1
  simp [putOps, putOp, fc, hasText, hasAt, putText, h1, h2, h3]
end Go.Proofs.Ytlpjeckhejbkkaa
