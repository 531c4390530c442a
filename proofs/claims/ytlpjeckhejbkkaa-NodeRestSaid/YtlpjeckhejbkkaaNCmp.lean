import Derived.Lib.Bytealg
import Derived.Test.YtlpjeckhejbkkaaNBad
set_option linter.unusedVariables false
set_option linter.unusedSimpArgs false
set_option maxRecDepth 20000
set_option maxHeartbeats 400000
namespace Go.Proofs.Ytlpjeckhejbkkaa
open Go.RowKit

abbrev HS (w : World) (g : Nat) (v : Value) (l : List GHash) : Prop := RS w 32 g v l.length (l.flatMap GHash.cells)
theorem HS.item {w : World} {g : Nat} {v : Value} {l : List GHash} (h : HS w g v l) (h0 : 0 < l.length) :
    ∃ off cap, v = .slice (some ⟨g, off, none⟩) l.length cap ∧ l.length ≤ cap ∧ cap ≤ maxLen ∧ g < w.heap.size ∧ ∀ (i : Nat) (hi : i < l.length), HashAt w g (off + i * 32) l[i] := RS.item GHash.cells_length h h0
/-! ### two hashes in their order -/
theorem cmpB_lib : ∀ a b : Bytes, a.length = b.length → Lib.compareBytes a b = cmpB a b
  | [], [], _ => by simp [Lib.compareBytes, cmpB]
  | x :: a, y :: b, h => by
    unfold Lib.compareBytes cmpB
    rw [cmpB_lib a b (by simpa using h)]
  | [], y :: b, h => by simp at h
  | x :: a, [], h => by simp at h
theorem cmpB_self : ∀ a : Bytes, cmpB a a = 0
  | [] => rfl
  | x :: a => by
    unfold cmpB
    rw [if_neg (by simp), if_neg (by simp)]
    exact cmpB_self a
theorem cmpB_range : ∀ a b : Bytes, cmpB a b = -1 ∨ cmpB a b = 0 ∨ cmpB a b = 1
  | [], [] => .inr (.inl rfl)
  | [], y :: b => .inr (.inl rfl)
  | x :: a, [] => .inr (.inl rfl)
  | x :: a, y :: b => by
    unfold cmpB
    split
    · exact .inl rfl
    · split
      · exact .inr (.inr rfl)
      · exact cmpB_range a b
theorem run_loadBytes {P : Program} {w : World} {b : Nat} (xs : Bytes) : ∀ (o : Nat) (acc : ByteArray), (∀ (i : Nat) (u : Value), (xs.map bv)[i]? = some u → w.cell? ⟨b, o + i, none⟩ = some u) →
    (Extern.Bytes.loadBytes ⟨b, o, none⟩ xs.length acc).run P w = .ok ⟨acc.data ++ xs.toArray⟩ w := by
  induction xs with
  | nil => intro o acc _; simp [Extern.Bytes.loadBytes]
  | cons x xs ih =>
    intro o acc h
    have h0 := h 0 (bv x) rfl
    rw [Nat.add_zero] at h0
    have h1 := ih (o + 1) (acc.push x) (fun i u hu => by rw [Nat.add_assoc, Nat.add_comm 1 i]; exact h (i + 1) u (by simpa using hu))
    rw [List.length_cons, Extern.Bytes.loadBytes]
    have e : (⟨b, o, none⟩ : Addr).add 1 = ⟨b, o + 1, none⟩ := by simp [Addr.add]
    have ex : (Int.toNat (x.toNat : Int)).toUInt8 = x := by simp
    simp only [Sem.run_bind, Go.run_load, h0, Result.andThen_ok, bv, e, ex]
    rw [h1]
    congr 2
    simp [ByteArray.push]
theorem run_bytesOf {P : Program} {w : World} {g : Nat} {v : Value} {xs : Bytes} (h : BS w g v xs) : (Extern.Bytes.bytesOf v).run P w = .ok ⟨xs.toArray⟩ w := by
  by_cases h0 : 0 < xs.length
  · obtain ⟨off, cap, rfl, _, _, _, hc⟩ := h.at_ h0
    unfold Extern.Bytes.bytesOf
    rw [run_loadBytes xs off _ hc]
    congr 2
    simp
  · obtain rfl : xs = [] := List.eq_nil_of_length_eq_zero (by omega)
    obtain ⟨A, cap, rfl, _, _⟩ := h.val
    cases A
    · simp [Extern.Bytes.bytesOf]; rfl
    · simp [Extern.Bytes.bytesOf, Extern.Bytes.loadBytes]; rfl
theorem bytealg_any {w : World} {g k : Nat} {v u : Value} {xs ys : Bytes} (h : BS w g v xs) (h' : BS w k u ys) (hl : xs.length = ys.length) :
    (callFunc 87 #[v, u]).run Try.prog w = .ok (.value (.int .i64 (cmpB xs ys))) w := by
  rw [run_callFunc_extern Try.func87 (by kernel_rfl) (by kernel_rfl) (by kernel_rfl) (e := Extern.BytealgCompare.compare) (by kernel_rfl)]
  have : (Extern.BytealgCompare.compare #[v, u]).run Try.prog w = .ok (.int .i64 (cmpB xs ys)) w := by
    change Sem.run Try.prog (do pure (goInt (Extern.BytealgCompare.cmp (← Extern.Bytes.bytesOf v) (← Extern.Bytes.bytesOf u)))) w = _
    simp only [Sem.run_bind, run_bytesOf h, run_bytesOf h', Sem.run_pure, Result.andThen_ok]
    rw [Lib.cmp_eq]
    simp only
    rw [cmpB_lib xs ys hl]
    rfl
  rw [this]
  rfl
end Go.Proofs.Ytlpjeckhejbkkaa
