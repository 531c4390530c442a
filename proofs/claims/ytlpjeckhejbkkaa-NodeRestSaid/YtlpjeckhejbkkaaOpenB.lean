import Derived.Test.YtlpjeckhejbkkaaOpen
import Derived.SizedLaws
set_option linter.unusedVariables false
set_option linter.unusedSimpArgs false
set_option maxRecDepth 20000
set_option maxHeartbeats 400000
namespace Go.Proofs.Ytlpjeckhejbkkaa
open Go.ChangeShapes Go.WideShapes Go.ChangeAt Go.RowKit

variable {H : Type} {enc : TypeId × Value → H} {w : World} {base : Nat} {spare : Nat → Bool} {held : Bool} {fuel : Nat} {x : DataW H × List MemPlace}
theorem open_byte {cs : List Value} (h : DataW.trod enc Try.prog w base spare held fuel 5 cs = some x) : ∃ b : UInt8, cs = [bv b] := by
  obtain ⟨n, h1, _, h3⟩ := DataW.trod_int Try.underlying5 h
  have hb := bounds_u8 h3
  refine ⟨UInt8.ofNat n.toNat, ?_⟩
  rw [h1]
  have : (UInt8.ofNat n.toNat).toNat = n.toNat := by simp; omega
  simp only [bv, this]
  rw [Int.toNat_of_nonneg hb.1]
theorem RS.of_cells1 {w : World} {g off cap : Nat} {l : List Value} (hc : l.length ≤ cap) (hm : cap ≤ maxLen) (h : ∀ i (hi : i < l.length), w.cell? ⟨g, off + i, none⟩ = some l[i]) : RS w 1 g (.slice (some ⟨g, off, none⟩) l.length cap) l.length l := by
  refine ⟨by simp, _, cap, rfl, hc, hm, fun h0 => ⟨off, rfl, ?_, fun i u hu => ?_⟩⟩
  · have := h 0 h0
    rcases Nat.lt_or_ge g w.heap.size with hlt | hge
    · exact hlt
    · simp [World.cell?, Array.getElem?_eq_none hge] at this
  · obtain ⟨hlt, rfl⟩ := List.getElem?_eq_some_iff.1 hu
    exact h i hlt
/-- a slice of values of one cell each -/
theorem open_ones {t e : TypeId} {α : Type} {f : α → Value} (hu : Try.prog.underlying t = some (.slice e)) (hce : Try.prog.cellsOf e = 1)
    (one : ∀ {fuel : Nat} {cs : List Value} {x : DataW H × List MemPlace}, DataW.trod enc Try.prog w base spare held fuel e cs = some x → ∃ a : α, cs = [f a])
    {cs : List Value} (h : DataW.trod enc Try.prog w base spare held fuel t cs = some x) : ∃ (v : Value) (g : Nat) (l : List α), cs = [v] ∧ RS w 1 g v l.length (l.map f) ∧ (l = [] ∨ ∃ es sp, x.1 = .slice es sp ∧ es.length = l.length) := by
  rcases DataW.trod_slice hu h with ⟨rfl, _⟩ | ⟨a, len, cap, elems, rest, n, _, rfl, rfl, _, hl, hm, hlen, hel, _, _⟩
  · exact ⟨_, 0, [], rfl, RS.nil w 1 0, .inl rfl⟩
  · rw [hce] at hel
    obtain ⟨b, off, spot⟩ := a
    by_cases h0 : 0 < len
    · have each0 : ∀ i, i < len → ∃ o : α, w.cell? ((⟨b, off, spot⟩ : Addr).add i) = some (f o) := fun i hi => by
        have h1 := hel i hi
        rw [List.getElem?_eq_getElem (by omega), Option.bind_eq_some_iff] at h1
        obtain ⟨cs', h2, h3⟩ := h1
        obtain ⟨o, rfl⟩ := one h3
        obtain ⟨_, _, h6⟩ := World.cells?_some h2
        have h7 := h6 0 (by omega)
        refine ⟨o, ?_⟩
        rw [Nat.mul_one] at h7
        simpa [Addr.add] using h7
      have hs : spot = none := by
        obtain ⟨o, ho⟩ := each0 0 h0
        have h8 : w.cell? ⟨b, off, spot⟩ = some (f o) := by simpa [Addr.add] using ho
        exact World.cell?_spot h8
      subst hs
      have each : ∀ i, i < len → ∃ o : α, w.cell? ⟨b, off + i, none⟩ = some (f o) := fun i hi => by
        obtain ⟨o, ho⟩ := each0 i hi
        rw [Addr.add_mid] at ho
        exact ⟨o, ho⟩
      obtain ⟨l, hll, hp⟩ := list_of (fun i o => w.cell? ⟨b, off + i, none⟩ = some (f o)) len each
      subst hll
      refine ⟨_, b, l, rfl, ?_, .inr ⟨_, _, rfl, by simpa using hlen⟩⟩
      have := RS.of_cells1 (w := w) (g := b) (off := off) (cap := cap) (l := l.map f) (by simpa using hl) hm (fun i hi => by
        rw [List.getElem_map]
        exact hp i (by simpa using hi))
      rw [List.length_map] at this
      exact this
    · have e : len = 0 := by omega
      subst e
      exact ⟨_, 0, [], rfl, ⟨by simp, _, cap, rfl, hl, hm, fun h => absurd h (by simp)⟩, .inl rfl⟩
theorem open_bytes {cs : List Value} (h : DataW.trod enc Try.prog w base spare held fuel 27 cs = some x) : ∃ (v : Value) (g : Nat) (l : Bytes), cs = [v] ∧ BS w g v l ∧ (l = [] ∨ ∃ es sp, x.1 = .slice es sp ∧ es.length = l.length) :=
  open_ones Try.underlying27 (by kernel_rfl) open_byte h
theorem bytes_bytes : Try.prog.bytesOf 5 = 1 := by kernel_rfl
theorem bytes_short {P : Program} {ts : List TypeId} {ds : List (DataW H)} {l : Bytes} {d : DataW H} (hz : (DataW.weightsEach Try.prog ts ds).all (· ≤ reachBytes) = true) {j : Nat} (ht : ts[j]? = some 27) (hd : ds[j]? = some d)
    (h : l = [] ∨ ∃ es sp, d = .slice es sp ∧ es.length = l.length) : l.length ≤ 140737488351232 := by
  rcases h with rfl | ⟨es, sp, rfl, he⟩
  · simp
  · have := sized_slice hz ht hd Try.underlying27
    rw [bytes_bytes] at this
    simp only [reachBytes] at this
    omega
end Go.Proofs.Ytlpjeckhejbkkaa
