import Derived.Test.YtlpjeckhejbkkaaFix
import Derived.WalkKit
import Derived.ProofKit
import Derived.OpenShut
import Derived.ShutString
import Derived.ChangeOld
import Derived.Below
set_option linter.unusedVariables false
set_option linter.unusedSimpArgs false
set_option maxRecDepth 20000
set_option maxHeartbeats 400000
namespace Go.Proofs.Ytlpjeckhejbkkaa
open Go.ChangeShapes Go.WideShapes Go.ChangeAt Go.RowKit

variable {H : Type} {enc : TypeId × Value → H} {w : World} {base : Nat} {spare : Nat → Bool} {held : Bool} {fuel : Nat} {x : DataW H × List MemPlace}
theorem one_of_take {cs : List Value} {i : Nat} {v : Value} (h : (cs.drop i).take 1 = [v]) : cs[i]? = some v := by
  have := congrArg (fun l => l[0]?) h
  simpa using this
theorem bytes_of_cells (cs : List Value) (h : ∀ i, i < cs.length → ∃ n : Int, cs[i]? = some (.int .u8 n) ∧ (Lit.int .u8 n).wf = true) : ∃ l : Bytes, cs = l.map bv ∧ l.length = cs.length := by
  induction cs with
  | nil => exact ⟨[], rfl, rfl⟩
  | cons c cs ih =>
    obtain ⟨l, hl, hn⟩ := ih (fun i hi => by simpa using h (i + 1) (by simpa using hi))
    obtain ⟨n, hc, hw⟩ := h 0 (by simp)
    have hb := bounds_u8 hw
    refine ⟨UInt8.ofNat n.toNat :: l, ?_, by simp [hn]⟩
    have e : c = .int .u8 n := by simpa using hc
    rw [List.map_cons, ← hl, e]
    congr 1
    simp only [Value.int.injEq, true_and]
    have : (UInt8.ofNat n.toNat).toNat = n.toNat := by simp; omega
    rw [this]; omega
theorem open_hash {cs : List Value} (h : DataW.trod enc Try.prog w base spare held fuel 46 cs = some x) : ∃ a : GHash, cs = a.cells := by
  obtain ⟨xs, m, _, _, hl, hn, he⟩ := DataW.trod_array Try.underlying46 h
  have c1 : Try.prog.cellsOf 5 = 1 := by kernel_rfl
  have c32 : Try.prog.cellsOf 46 = 32 := by kernel_rfl
  rw [c32] at hl
  obtain ⟨l, hcs, hlen⟩ := bytes_of_cells cs (fun i hi => by
    have h1 := he i (by omega)
    rw [c1, Nat.mul_one, List.getElem?_eq_getElem (by omega)] at h1
    obtain ⟨n, h2, _, h3⟩ := DataW.trod_int Try.underlying5 h1
    exact ⟨n, one_of_take h2, h3⟩)
  exact ⟨⟨l, by omega⟩, hcs⟩
def GIdent.nums (a : GIdent) : Prop := -9223372036854775808 ≤ a.op ∧ a.op ≤ 9223372036854775807
theorem open_ident {cs : List Value} (h : DataW.trod enc Try.prog w base spare held fuel 72 cs = some x) : ∃ a : GIdent, cs = a.cells ∧ a.nums := by
  obtain ⟨y0, y1, n, _, hl, h0, h1⟩ := trod_struct2 Try.underlying72 h
  have c33 : Try.prog.cellsOf 72 = 33 := by kernel_rfl
  have c32 : Try.prog.cellsOf 46 = 32 := by kernel_rfl
  have c1 : Try.prog.cellsOf 3 = 1 := by kernel_rfl
  rw [c33] at hl
  rw [c32] at h0
  rw [c1] at h1
  obtain ⟨a, ha⟩ := open_hash h0
  obtain ⟨m, h2, _, h3⟩ := DataW.trod_int Try.underlying3 h1
  refine ⟨⟨a, m⟩, ?_, bounds_i64 h3⟩
  have e : cs = (cs.drop 0).take 32 ++ (cs.drop 32).take 1 := by
    have e1 : (cs.drop 32).take 1 = cs.drop 32 := List.take_of_length_le (by simp; omega)
    rw [e1, List.drop_zero, List.take_append_drop]
  rw [e, ha, h2]
  rfl
theorem five {α : Type} (cs : List α) (a b c d : α) (r : List α) (hl : cs.length = 37) (h0 : (cs.drop 0).take 1 = [a]) (h1 : (cs.drop 1).take 1 = [b]) (h2 : (cs.drop 2).take 1 = [c]) (h3 : (cs.drop 3).take 1 = [d]) (h4 : (cs.drop 4).take 33 = r) : cs = a :: b :: c :: d :: r := by
  match cs, hl with
  | x0 :: x1 :: x2 :: x3 :: t, hl =>
    simp only [List.drop_zero, List.drop_succ_cons, List.take_succ_cons, List.take_zero, List.cons.injEq, and_true] at h0 h1 h2 h3 h4
    have e : t.take 33 = t := List.take_of_length_le (by simp at hl; omega)
    rw [e] at h4
    rw [h0, h1, h2, h3, h4]
theorem open_op {cs : List Value} (h : DataW.trod enc Try.prog w base spare held fuel 74 cs = some x) : ∃ o : GOp, cs = o.cells ∧ o.nums ∧ o.at_.nums := by
  obtain ⟨xs, n, _, _, hl, hn, hf⟩ := DataW.trod_struct Try.underlying74 h
  have c37 : Try.prog.cellsOf 74 = 37 := by kernel_rfl
  have c33 : Try.prog.cellsOf 72 = 33 := by kernel_rfl
  have c1 : Try.prog.cellsOf 3 = 1 := by kernel_rfl
  have c2 : Try.prog.cellsOf 9 = 1 := by kernel_rfl
  have c3 : Try.prog.cellsOf 2 = 1 := by kernel_rfl
  rw [c37] at hl
  match xs, hn with
  | [y0, y1, y2, y3, y4], _ =>
    have h0 := hf 0 ⟨"Kind", 3, 0, false, "", "", 0⟩ rfl
    have h1 := hf 1 ⟨"Key", 9, 1, false, "", "", 8⟩ rfl
    have h2 := hf 2 ⟨"Text", 9, 2, false, "", "", 24⟩ rfl
    have h3 := hf 3 ⟨"N", 2, 3, false, "", "", 40⟩ rfl
    have h4 := hf 4 ⟨"At", 72, 4, false, "", "", 48⟩ rfl
    dsimp only at h0 h1 h2 h3 h4
    rw [c1] at h0
    rw [c2] at h1 h2
    rw [c3] at h3
    rw [c33] at h4
    obtain ⟨k, e0, _, _⟩ := DataW.trod_int Try.underlying3 (h0.trans rfl)
    obtain ⟨key, e1, _, _⟩ := DataW.trod_string Try.underlying9 (h1.trans rfl)
    obtain ⟨text, e2, _, _⟩ := DataW.trod_string Try.underlying9 (h2.trans rfl)
    obtain ⟨m, e3, _, w3⟩ := DataW.trod_int Try.underlying2 (h3.trans rfl)
    obtain ⟨a, e4, w4⟩ := open_ident (h4.trans rfl)
    exact ⟨⟨k, key, text, m, a⟩, five cs _ _ _ _ _ hl e0 e1 e2 e3 e4, bounds_i64 w3, w4⟩
theorem list_of {α : Type} (P : Nat → α → Prop) : ∀ n, (∀ i, i < n → ∃ o, P i o) → ∃ l : List α, l.length = n ∧ ∀ i (hi : i < l.length), P i l[i]
  | 0, _ => ⟨[], rfl, fun i hi => by simp at hi⟩
  | n + 1, h => by
    obtain ⟨l, hl, hp⟩ := list_of P n (fun i hi => h i (by omega))
    obtain ⟨o, ho⟩ := h n (by omega)
    refine ⟨l ++ [o], by simp [hl], fun i hi => ?_⟩
    by_cases h1 : i < l.length
    · rw [List.getElem_append_left h1]; exact hp i h1
    · have e : i = n := by simp at hi; omega
      subst e
      rw [List.getElem_append_right (by omega)]
      simpa [hl] using ho
theorem OS.of_items {w : World} {g off cap : Nat} {l : List GOp} (hc : l.length ≤ cap) (hm : cap ≤ maxLen) (hg : g < w.heap.size) (h : ∀ i (hi : i < l.length), OpAt w g (off + i * 37) l[i]) : OS w g (.slice (some ⟨g, off, none⟩) l.length cap) l := by
  refine ⟨flat_length _ _ GOp.cells_length l, _, cap, rfl, hc, hm, fun _ => ⟨off, rfl, hg, fun i u hu => ?_⟩⟩
  have hi : i = (i / 37) * 37 + i % 37 := by omega
  rw [hi, flat_get GOp.cells 37 GOp.cells_length l (i / 37) (i % 37) (by omega)] at hu
  obtain ⟨o, ho, hu⟩ := Option.bind_eq_some_iff.1 hu
  obtain ⟨hlt, rfl⟩ := List.getElem?_eq_some_iff.1 ho
  have := h (i / 37) hlt (i % 37) u hu
  rw [Nat.add_assoc, ← hi] at this
  exact this
theorem open_ops {cs : List Value} (h : DataW.trod enc Try.prog w base spare held fuel 24 cs = some x) : ∃ (v : Value) (g : Nat) (l : List GOp), cs = [v] ∧ OS w g v l ∧ ∀ o ∈ l, o.nums ∧ o.at_.nums := by
  rcases DataW.trod_slice Try.underlying24 h with ⟨rfl, _⟩ | ⟨a, len, cap, elems, rest, n, _, rfl, _, _, hl, hm, hlen, hel, _, _⟩
  · exact ⟨_, 0, [], rfl, RS.nil w 37 0, by simp⟩
  · have c37 : Try.prog.cellsOf 74 = 37 := by kernel_rfl
    rw [c37] at hel
    obtain ⟨b, off, spot⟩ := a
    by_cases h0 : 0 < len
    · have hs : spot = none := by
        have h1 := hel 0 h0
        rw [List.getElem?_eq_getElem (by omega), Option.bind_eq_some_iff] at h1
        obtain ⟨cs', h2, h3⟩ := h1
        obtain ⟨o, rfl, _, _⟩ := open_op h3
        obtain ⟨_, _, h6⟩ := World.cells?_some h2
        have h7 := h6 0 (by omega)
        have h8 : w.cell? ⟨b, off, spot⟩ = some (.int .i64 o.kind) := by simpa [Addr.add, GOp.cells] using h7
        exact World.cell?_spot h8
      subst hs
      have each : ∀ i, i < len → ∃ o : GOp, OpAt w b (off + i * 37) o ∧ o.nums ∧ o.at_.nums := fun i hi => by
        have h1 := hel i hi
        rw [List.getElem?_eq_getElem (by omega), Option.bind_eq_some_iff] at h1
        obtain ⟨cs', h2, h3⟩ := h1
        obtain ⟨o, rfl, h4, h5⟩ := open_op h3
        obtain ⟨_, _, h6⟩ := World.cells?_some h2
        refine ⟨o, fun k u hu => ?_, h4, h5⟩
        have hk : k < 37 := by rw [← o.cells_length]; exact (List.getElem?_eq_some_iff.1 hu).1
        have h7 := h6 k hk
        rw [hu, Addr.add_mid, Addr.add_mid] at h7
        exact h7
      obtain ⟨l, hll, hp⟩ := list_of (fun i o => OpAt w b (off + i * 37) o ∧ o.nums ∧ o.at_.nums) len each
      subst hll
      have hg : b < w.heap.size := by
        have := (hp 0 h0).1.kind
        rcases Nat.lt_or_ge b w.heap.size with hlt | hge
        · exact hlt
        · simp [World.cell?, Array.getElem?_eq_none hge] at this
      exact ⟨_, b, l, rfl, OS.of_items hl hm hg (fun i hi => (hp i hi).1), fun o ho => by
        obtain ⟨i, hi, rfl⟩ := List.mem_iff_getElem.1 ho
        exact (hp i hi).2⟩
    · have e : len = 0 := by omega
      subst e
      exact ⟨_, 0, [], rfl, ⟨by simp, _, cap, rfl, hl, hm, fun h => absurd h (by simp)⟩, by simp⟩
end Go.Proofs.Ytlpjeckhejbkkaa
