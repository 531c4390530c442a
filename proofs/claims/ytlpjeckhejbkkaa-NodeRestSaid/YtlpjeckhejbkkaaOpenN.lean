import Derived.Test.YtlpjeckhejbkkaaOpenB
import Derived.Test.YtlpjeckhejbkkaaNVal
set_option linter.unusedVariables false
set_option linter.unusedSimpArgs false
set_option maxRecDepth 20000
set_option maxHeartbeats 400000
namespace Go.Proofs.Ytlpjeckhejbkkaa
open Go.ChangeShapes Go.WideShapes Go.ChangeAt Go.RowKit

/-! ### transactions that come in -/
variable {H : Type} {enc : TypeId × Value → H} {w : World} {base : Nat} {spare : Nat → Bool} {held : Bool} {fuel : Nat} {x : DataW H × List MemPlace}
theorem RS.of_items {α : Type} {f : α → List Value} {sz : Nat} (hf : ∀ a, (f a).length = sz) (hsz : 0 < sz) {w : World} {g off cap : Nat} {l : List α} (hc : l.length ≤ cap) (hm : cap ≤ maxLen) (hg : g < w.heap.size) (h : ∀ i (hi : i < l.length), CellsAt w g (off + i * sz) (f l[i])) : RS w sz g (.slice (some ⟨g, off, none⟩) l.length cap) l.length (l.flatMap f) := by
  refine ⟨flat_length _ _ hf l, _, cap, rfl, hc, hm, fun _ => ⟨off, rfl, hg, fun i u hu => ?_⟩⟩
  have hi : i = (i / sz) * sz + i % sz := by rw [Nat.mul_comm]; exact (Nat.div_add_mod i sz).symm
  rw [hi, flat_get f sz hf l (i / sz) (i % sz) (Nat.mod_lt _ hsz)] at hu
  obtain ⟨o, ho, hu⟩ := Option.bind_eq_some_iff.1 hu
  obtain ⟨hlt, rfl⟩ := List.getElem?_eq_some_iff.1 ho
  have := h (i / sz) hlt (i % sz) u hu
  rw [Nat.add_assoc, ← hi] at this
  exact this
theorem open_hashes {cs : List Value} (h : DataW.trod enc Try.prog w base spare held fuel 23 cs = some x) : ∃ (v : Value) (g : Nat) (l : List GHash), cs = [v] ∧ HS w g v l := by
  rcases DataW.trod_slice Try.underlying23 h with ⟨rfl, _⟩ | ⟨a, len, cap, elems, rest, n, _, rfl, _, _, hl, hm, hlen, hel, _, _⟩
  · exact ⟨_, 0, [], rfl, RS.nil w 32 0⟩
  · have c32 : Try.prog.cellsOf 46 = 32 := by kernel_rfl
    rw [c32] at hel
    obtain ⟨b, off, spot⟩ := a
    by_cases h0 : 0 < len
    · have each0 : ∀ i, i < len → ∃ o : GHash, ∀ k, k < 32 → ∀ u, o.cells[k]? = some u → w.cell? (((⟨b, off, spot⟩ : Addr).add (i * 32)).add k) = some u := fun i hi => by
        have h1 := hel i hi
        rw [List.getElem?_eq_getElem (by omega), Option.bind_eq_some_iff] at h1
        obtain ⟨cs', h2, h3⟩ := h1
        obtain ⟨o, rfl⟩ := open_hash h3
        obtain ⟨_, _, h6⟩ := World.cells?_some h2
        refine ⟨o, fun k hk u hu => ?_⟩
        have h7 := h6 k hk
        rw [hu] at h7
        exact h7
      have hs : spot = none := by
        obtain ⟨o, ho⟩ := each0 0 h0
        obtain ⟨u, hu⟩ : ∃ u, o.cells[0]? = some u := ⟨_, List.getElem?_eq_getElem (by rw [o.cells_length]; omega)⟩
        have h7 := ho 0 (by omega) u hu
        have h8 : w.cell? ⟨b, off, spot⟩ = some u := by simpa [Addr.add] using h7
        exact World.cell?_spot h8
      subst hs
      have each : ∀ i, i < len → ∃ o : GHash, CellsAt w b (off + i * 32) o.cells := fun i hi => by
        obtain ⟨o, ho⟩ := each0 i hi
        refine ⟨o, fun k u hu => ?_⟩
        have hk : k < 32 := by rw [← o.cells_length]; exact (List.getElem?_eq_some_iff.1 hu).1
        have h7 := ho k hk u hu
        rw [Addr.add_mid, Addr.add_mid] at h7
        exact h7
      obtain ⟨l, hll, hp⟩ := list_of (fun i o => CellsAt w b (off + i * 32) (GHash.cells o)) len each
      subst hll
      have hg : b < w.heap.size := by
        have h1 := hp 0 h0 0 _ (List.getElem?_eq_getElem (by rw [GHash.cells_length]; omega))
        exact World.block_lt_of_cell? w _ h1
      exact ⟨_, b, l, rfl, RS.of_items GHash.cells_length (by omega) hl hm hg hp⟩
    · have e : len = 0 := by omega
      subst e
      exact ⟨_, 0, [], rfl, ⟨by simp, _, cap, rfl, hl, hm, fun h => absurd h (by simp)⟩⟩
theorem four {α : Type} (cs : List α) (a b c d : α) (hl : cs.length = 4) (h0 : (cs.drop 0).take 1 = [a]) (h1 : (cs.drop 1).take 1 = [b]) (h2 : (cs.drop 2).take 1 = [c]) (h3 : (cs.drop 3).take 1 = [d]) : cs = [a, b, c, d] := by
  match cs, hl with
  | [x0, x1, x2, x3], _ => simp at h0 h1 h2 h3; simp [h0, h1, h2, h3]
theorem open_node {cs : List Value} (h : DataW.trod enc Try.prog w base spare held fuel 26 cs = some x) :
    ∃ (n : GNode) (gp go : Nat) (pv ov : Value), cs = nodeL n.author n.clock pv ov ∧ NodR w n gp go pv ov ∧ ∀ o ∈ n.ops, o.nums := by
  obtain ⟨xs, n, _, _, hl, hn, hf⟩ := DataW.trod_struct Try.underlying26 h
  have c4 : Try.prog.cellsOf 26 = 4 := by kernel_rfl
  have c1 : Try.prog.cellsOf 3 = 1 := by kernel_rfl
  have c2 : Try.prog.cellsOf 23 = 1 := by kernel_rfl
  have c3 : Try.prog.cellsOf 24 = 1 := by kernel_rfl
  rw [c4] at hl
  match xs, hn with
  | [y0, y1, y2, y3], _ =>
    have h0 := hf 0 ⟨"Author", 3, 0, false, "", "", 0⟩ rfl
    have h1 := hf 1 ⟨"Clock", 3, 1, false, "", "", 8⟩ rfl
    have h2 := hf 2 ⟨"Parents", 23, 2, false, "", "", 16⟩ rfl
    have h3 := hf 3 ⟨"Ops", 24, 3, false, "", "", 40⟩ rfl
    dsimp only at h0 h1 h2 h3
    rw [c1] at h0 h1
    rw [c2] at h2
    rw [c3] at h3
    obtain ⟨au, e0, _, _⟩ := DataW.trod_int Try.underlying3 (h0.trans rfl)
    obtain ⟨cl, e1, _, _⟩ := DataW.trod_int Try.underlying3 (h1.trans rfl)
    obtain ⟨pv, gp, ps, e2, hp⟩ := open_hashes (h2.trans rfl)
    obtain ⟨ov, go, os, e3, ho, hns⟩ := open_ops (h3.trans rfl)
    exact ⟨⟨au, cl, ps, os⟩, gp, go, pv, ov, four cs _ _ _ _ hl e0 e1 e2 e3, ⟨hp, ho⟩, fun o h => (hns o h).1⟩
end Go.Proofs.Ytlpjeckhejbkkaa
