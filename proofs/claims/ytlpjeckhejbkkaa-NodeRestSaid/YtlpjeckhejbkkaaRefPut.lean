import Derived.Test.YtlpjeckhejbkkaaRef02
import Derived.Lib.ConvBytes
set_option linter.unusedVariables false
set_option linter.unusedSimpArgs false
set_option maxRecDepth 20000
set_option maxHeartbeats 800000
namespace Go.Proofs.Ytlpjeckhejbkkaa
open Go.RowKit

/-- the state while ref04.Put lays one operation -/
def PT (w : World) (v0 : Value) (q g : Nat) (vl : Value) (l : List GOp) (o : GOp) (zs : Bytes) (s : Value) (wr : World) : Prop :=
  OwnB wr s zs ∧ OS wr g vl l ∧ OpV wr q o ∧ Mod (blks v0) w wr ∧ Fresh w (blks v0) (blks s) ∧ (0 < l.length → g ∉ blks s) ∧ q ∉ blks s
theorem PT.app {w wr w' : World} {v0 vl s : Value} {q g : Nat} {l : List GOp} {o : GOp} {zs ys : Bytes} {e : Ending} (h : PT w v0 q g vl l o zs s wr) (hp : AppP wr s ys e w') : ∃ A n cap, e = .returned (.slice A n cap) ∧ PT w v0 q g vl l o ys (.slice A n cap) w' := by
  obtain ⟨h1, h2, h3, h4, h5, h6, h7⟩ := h
  obtain ⟨A, n, cap, he, k1, k2, k3⟩ := hp
  exact ⟨A, n, cap, he, k1, h2.mod k2 h6, h3.mod k2 h7, h4.fresh h5 k2, h5.trans k3 h4.size, h2.not k3 h6, k3.not h7 h3.lt⟩
theorem PT.mod {w wr w' : World} {v0 vl s : Value} {q g : Nat} {l : List GOp} {o : GOp} {zs : Bytes} (h : PT w v0 q g vl l o zs s wr) (hm : Mod [] wr w') : PT w v0 q g vl l o zs s w' := by
  obtain ⟨h1, h2, h3, h4, h5, h6, h7⟩ := h
  exact ⟨h1.mod hm (by simp), h2.mod hm (by simp), h3.mod hm (by simp), h4.trans (hm.mono (by simp)), h5, h6, h7⟩
theorem bytes_mod (w : World) (s : ByteArray) : Mod [] w (Lib.bytesWorld w 5 s) :=
  ⟨rfl, rfl, rfl, by rw [Lib.bytesWorld_size]; omega, fun i hi _ => Lib.bytesWorld_at_old w _ s i hi⟩
theorem bytes_bs (w : World) (s : ByteArray) (hs : s.size ≤ 4611686018427387904) : BS (Lib.bytesWorld w 5 s) w.heap.size (.slice (some ⟨w.heap.size, 0, none⟩) s.size (grownCap w s.size 0 5)) s.data.toList := by
  have e : s.data.toList.length = s.size := rfl
  unfold BS
  rw [e]
  refine ⟨by simp [e], _, _, rfl, grownCap_ge w _ 0 _, grownCap_le_maxLen w _ 0 _ (by unfold maxLen; omega), fun h0 => ⟨0, rfl, by rw [Lib.bytesWorld_size]; omega, fun i u hu => ?_⟩⟩
  have hi : i < s.size := by
    have := (List.getElem?_eq_some_iff.1 hu).1
    simpa [e] using this
  rw [Nat.zero_add, Lib.bytesWorld_cell w _ s i hi]
  rw [List.getElem?_map] at hu
  have h2 : s.data.toList[i]? = some (s.data.toList.getD i 0) := by rw [List.getD_eq_getElem?_getD, List.getElem?_eq_getElem (by omega)]; rfl
  rw [h2] at hu
  simpa using hu
theorem wpList_convert_bytes {ops : Array Oper} {rest : List Oper} {op : Oper} {a : Act} {w : World} {Q : Exit → Act → World → Prop} (x : Operand) (ho : op.op = .convert 9 27 x) (hgd : Region.wanted op (yielded ops a.tmps) = true) {s : ByteArray} (hx : a.eval x = .string s) (hs : s.size ≤ 4611686018427387904)
    (h : ∀ (g n cap : Nat) (w' : World), BS w' g (.slice (some ⟨g, 0, none⟩) n cap) s.data.toList → Mod [] w w' → w.heap.size ≤ g → g < w'.heap.size → Hid (n = s.size) → wpList Try.prog ops Q rest (a.put op.dst (.slice (some ⟨g, 0, none⟩) n cap)) w') : wpList Try.prog ops Q (op :: rest) a w := by
  refine BigFrame.wpList_want hgd fun K hK => ?_
  have hr := Lib.run_convert_string_bytes (P := Try.prog) w 9 27 5 s Try.underlying9 Try.underlying27 Try.underlying5
  unfold Oper.wp execOp
  simp only [ho, hx, Sem.run_bind, hr, Result.andThen_ok, Sem.run_pure]
  exact hK _ _ (h _ _ _ _ (bytes_bs w s hs) (bytes_mod w s) (Nat.le_refl _) (by rw [Lib.bytesWorld_size]; omega) (Lib.hid rfl))
end Go.Proofs.Ytlpjeckhejbkkaa
