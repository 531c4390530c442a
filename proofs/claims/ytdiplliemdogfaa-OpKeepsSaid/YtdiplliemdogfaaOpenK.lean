import Derived.Test.YtdiplliemdogfaaOpenB
set_option linter.unusedVariables false
set_option linter.unusedSimpArgs false
set_option maxRecDepth 20000
set_option maxHeartbeats 400000
namespace Go.Proofs.Ytdiplliemdogfaa
open Go.ChangeShapes Go.WideShapes Go.ChangeAt Go.RowKit

variable {H : Type} {enc : TypeId × Value → H} {w : World} {base : Nat} {spare : Nat → Bool} {held : Bool} {fuel : Nat} {x : DataW H × List MemPlace}
theorem agg_weights {P : Program} {t : TypeId} {fs : Array Field} (hu : P.underlying t = some (.struct fs)) (parts : List (DataW H)) : (DataW.agg parts).weights P t = DataW.weightsEach P (fs.toList.map (·.type)) parts := by
  rw [DataW.weights, hu]
/-- an operation, and how heavy its key is -/
theorem open_opk {cs : List Value} (h : DataW.trod enc Try.prog w base spare held fuel 33 cs = some x) : ∃ o : GOp, cs = o.cells ∧ o.nums ∧ o.at_.nums ∧ o.key.size ∈ x.1.weights Try.prog 33 := by
  obtain ⟨o, rfl, ho1, ho2⟩ := open_op h
  refine ⟨o, rfl, ho1, ho2, ?_⟩
  obtain ⟨xs, n, _, rfl, hl, hn, hf⟩ := DataW.trod_struct Try.underlying33 h
  have c2 : Try.prog.cellsOf 9 = 1 := by kernel_rfl
  match xs, hn with
  | [y0, y1, y2, y3, y4], _ =>
    have h1 := hf 1 ⟨"Key", 9, 1, false, "", "", 8⟩ rfl
    dsimp only at h1
    rw [c2] at h1
    obtain ⟨key, e1, hy, _⟩ := DataW.trod_string Try.underlying9 (h1.trans rfl)
    have hk : o.key = key := by
      simp [GOp.cells] at e1
      exact e1
    subst hk
    subst hy
    dsimp only [List.map_cons, List.map_nil]
    rw [agg_weights Try.underlying33]
    refine DataW.weights_mem_each (j := 1) rfl rfl _ ?_
    rw [DataW.weights, List.mem_singleton, Array.length_toList]
    rfl
theorem open_opsk {cs : List Value} (h : DataW.trod enc Try.prog w base spare held fuel 23 cs = some x) : ∃ (v : Value) (g : Nat) (l : List GOp), cs = [v] ∧ OS w g v l ∧ (∀ o ∈ l, o.nums ∧ o.at_.nums) ∧
    (l = [] ∨ ∃ es sp : List (DataW H), x.1 = .slice es sp ∧ es.length = l.length ∧ ∀ o ∈ l, ∃ e ∈ es, o.key.size ∈ e.weights Try.prog 33) := by
  rcases DataW.trod_slice Try.underlying23 h with ⟨rfl, _⟩ | ⟨a, len, cap, elems, rest, n, _, rfl, rfl, _, hl, hm, hlen, hel, _, _⟩
  · exact ⟨_, 0, [], rfl, RS.nil w 37 0, by simp, .inl rfl⟩
  · have c37 : Try.prog.cellsOf 33 = 37 := by kernel_rfl
    rw [c37] at hel
    obtain ⟨b, off, spot⟩ := a
    by_cases h0 : 0 < len
    · have hs : spot = none := by
        have h1 := hel 0 h0
        rw [List.getElem?_eq_getElem (by omega), Option.bind_eq_some_iff] at h1
        obtain ⟨cs', h2, h3⟩ := h1
        obtain ⟨o, rfl, _, _⟩ := open_op h3
        obtain ⟨_, _, h6⟩ := World.cells?_some h2
        have h7 := h6 0 (by omega)
        have h8 : w.cell? ⟨b, off, spot⟩ = some (.int .i64 o.kind) := by simpa [Addr.add, GOp.cells] using h7
        exact World.cell?_spot h8
      subst hs
      have each : ∀ i, i < len → ∃ o : GOp, OpAt w b (off + i * 37) o ∧ (o.nums ∧ o.at_.nums) ∧ ∃ e ∈ elems.map (·.1), o.key.size ∈ e.weights Try.prog 33 := fun i hi => by
        have h1 := hel i hi
        have hei : i < elems.length := by omega
        rw [List.getElem?_eq_getElem hei, Option.bind_eq_some_iff] at h1
        obtain ⟨cs', h2, h3⟩ := h1
        obtain ⟨o, rfl, h4, h5, hw⟩ := open_opk h3
        obtain ⟨_, _, h6⟩ := World.cells?_some h2
        refine ⟨o, fun k u hu => ?_, ⟨h4, h5⟩, _, List.mem_map.2 ⟨elems[i], List.getElem_mem hei, rfl⟩, hw⟩
        have hk : k < 37 := by rw [← o.cells_length]; exact (List.getElem?_eq_some_iff.1 hu).1
        have h7 := h6 k hk
        rw [hu, Addr.add_mid, Addr.add_mid] at h7
        exact h7
      obtain ⟨l, hll, hp⟩ := list_of (fun i o => OpAt w b (off + i * 37) o ∧ (o.nums ∧ o.at_.nums) ∧ ∃ e ∈ elems.map (·.1), o.key.size ∈ e.weights Try.prog 33) len each
      subst hll
      have hg : b < w.heap.size := by
        have := (hp 0 h0).1.kind
        rcases Nat.lt_or_ge b w.heap.size with hlt | hge
        · exact hlt
        · simp [World.cell?, Array.getElem?_eq_none hge] at this
      refine ⟨_, b, l, rfl, OS.of_items hl hm hg (fun i hi => (hp i hi).1), fun o ho => ?_, .inr ⟨_, _, rfl, by simpa using hlen, fun o ho => ?_⟩⟩
      · obtain ⟨i, hi, rfl⟩ := List.mem_iff_getElem.1 ho
        exact (hp i hi).2.1
      · obtain ⟨i, hi, rfl⟩ := List.mem_iff_getElem.1 ho
        exact (hp i hi).2.2
    · have e : len = 0 := by omega
      subst e
      exact ⟨_, 0, [], rfl, ⟨by simp, _, cap, rfl, hl, hm, fun h => absurd h (by simp)⟩, by simp, .inl rfl⟩
theorem weightsAll_mem {P : Program} {e : TypeId} : ∀ {l : List (DataW H)} {d : DataW H}, d ∈ l → ∀ n ∈ d.weights P e, n ∈ DataW.weightsAll P e l
  | d' :: r, d, hd, n, hn => by
    simp only [DataW.weightsAll, List.mem_append]
    rcases List.mem_cons.1 hd with rfl | h
    · exact Or.inl hn
    · exact Or.inr (weightsAll_mem h n hn)
theorem ops_bytes : Try.prog.bytesOf 33 = 88 := by kernel_rfl
theorem ops_short {ts : List TypeId} {ds : List (DataW H)} {l : List GOp} {d : DataW H} (hz : (DataW.weightsEach Try.prog ts ds).all (· ≤ reachBytes) = true) {j : Nat} (ht : ts[j]? = some 23) (hd : ds[j]? = some d)
    (h : l = [] ∨ ∃ es sp : List (DataW H), d = .slice es sp ∧ es.length = l.length ∧ ∀ o ∈ l, ∃ e ∈ es, o.key.size ∈ e.weights Try.prog 33) : l.length ≤ 1700000000000 ∧ ∀ o ∈ l, o.key.size ≤ 140737488351232 := by
  rcases h with rfl | ⟨es, sp, rfl, he, hk⟩
  · simp
  · refine ⟨?_, fun o ho => ?_⟩
    · have := sized_slice hz ht hd Try.underlying23
      rw [ops_bytes] at this
      simp only [reachBytes] at this
      omega
    · obtain ⟨e, hes, hw⟩ := hk o ho
      refine of_decide_eq_true (List.all_eq_true.1 hz _ (DataW.weights_mem_each ht hd _ ?_))
      simp only [DataW.weights, Try.underlying23, List.mem_cons, List.mem_append]
      exact Or.inr (Or.inl (weightsAll_mem hes _ hw))
end Go.Proofs.Ytdiplliemdogfaa
