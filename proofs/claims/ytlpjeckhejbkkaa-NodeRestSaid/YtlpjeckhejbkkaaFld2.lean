import Derived.Test.YtlpjeckhejbkkaaFld
set_option linter.unusedVariables false
set_option linter.unusedSimpArgs false
set_option maxRecDepth 20000
set_option maxHeartbeats 400000
namespace Go.Proofs.Ytlpjeckhejbkkaa
open Go.RowKit

theorem heap_size_alloc (w : World) (o : Obj) : (w.alloc o).heap.size = w.heap.size + 1 := by simp
def hasF (k : Int) : List Fld := if k = 1 ∨ k = 3 ∨ k = 4 then [.text] else if k = 6 then [.number] else if k = 8 then [.text, .at_] else if k = 9 then [.at_] else []
def othersF (k : Int) : List Fld := if k = 1 ∨ k = 3 ∨ k = 4 then [.number, .at_] else if k = 6 then [.text, .at_] else if k = 8 then [.number] else if k = 9 then [.text, .number] else [.text, .number, .at_]
def FieldsP (w : World) (k : Int) (e : Ending) (w' : World) : Prop :=
  ∃ g1 g2 v1 v2, e = .returned (.tuple #[v1, v2]) ∧ FS w' g1 v1 (hasF k) ∧ FS w' g2 v2 (othersF k) ∧ Mod [] w w' ∧ w.heap.size ≤ g1 ∧ w.heap.size ≤ g2
theorem FS.new (w : World) (l : List Fld) (hl : l.length ≤ 3) : FS (w.alloc (.cells (l.flatMap Fld.cells).toArray 120)) w.heap.size (.slice (some ⟨w.heap.size, 0, none⟩) l.length l.length) l := by
  refine ⟨?_, _, _, rfl, Nat.le_refl _, by unfold maxLen; omega, fun _ => ⟨0, rfl, by simp, fun i u hu => ?_⟩⟩
  · induction l with
    | nil => rfl
    | cons f l ih => rw [List.flatMap_cons, List.length_append, f.cells_length, ih (by simp at hl; omega), List.length_cons]; omega
  · rw [Nat.zero_add, (Blk.new w _ _).cell i]
    simpa using hu
theorem fields_ab (w : World) (k : Int) (la lb : List Fld) (ha : la.length ≤ 3) (hb : lb.length ≤ 3) (e1 : hasF k = la) (e2 : othersF k = lb) :
    FieldsP w k (.returned (.tuple #[.slice (some ⟨w.heap.size, 0, none⟩) la.length la.length, .slice (some ⟨w.heap.size + 1, 0, none⟩) lb.length lb.length]))
      ((w.alloc (.cells (la.flatMap Fld.cells).toArray 120)).alloc (.cells (lb.flatMap Fld.cells).toArray 120)).drew := by
  have h2 := FS.new (w.alloc (.cells (la.flatMap Fld.cells).toArray 120)) lb hb
  rw [heap_size_alloc] at h2
  refine ⟨w.heap.size, w.heap.size + 1, _, _, rfl, ?_, ?_, (((Mod.refl [] w).alloc _).alloc _).drew, by omega, by omega⟩
  · rw [e1]; exact (FS.new w la ha).mod (((Mod.refl [] _).alloc _).drew) (by simp)
  · rw [e2]; exact h2.mod (Mod.refl [] _).drew (by simp)
theorem fields_ba (w : World) (k : Int) (la lb : List Fld) (ha : la.length ≤ 3) (hb : lb.length ≤ 3) (e1 : hasF k = la) (e2 : othersF k = lb) :
    FieldsP w k (.returned (.tuple #[.slice (some ⟨w.heap.size + 1, 0, none⟩) la.length la.length, .slice (some ⟨w.heap.size, 0, none⟩) lb.length lb.length]))
      ((w.alloc (.cells (lb.flatMap Fld.cells).toArray 120)).alloc (.cells (la.flatMap Fld.cells).toArray 120)).drew := by
  have h2 := FS.new (w.alloc (.cells (lb.flatMap Fld.cells).toArray 120)) la ha
  rw [heap_size_alloc] at h2
  refine ⟨w.heap.size + 1, w.heap.size, _, _, rfl, ?_, ?_, (((Mod.refl [] w).alloc _).alloc _).drew, by omega, by omega⟩
  · rw [e1]; exact h2.mod (Mod.refl [] _).drew (by simp)
  · rw [e2]; exact (FS.new w lb hb).mod (((Mod.refl [] _).alloc _).drew) (by simp)
theorem fields_nb (w : World) (k : Int) (lb : List Fld) (hb : lb.length ≤ 3) (e1 : hasF k = []) (e2 : othersF k = lb) :
    FieldsP w k (.returned (.tuple #[.slice none 0 0, .slice (some ⟨w.heap.size, 0, none⟩) lb.length lb.length])) (w.alloc (.cells (lb.flatMap Fld.cells).toArray 120)).drew := by
  refine ⟨w.heap.size, w.heap.size, _, _, rfl, ?_, ?_, ((Mod.refl [] w).alloc _).drew, by omega, by omega⟩
  · rw [e1]; exact RS.nil _ _ _
  · rw [e2]; exact (FS.new w lb hb).mod (Mod.refl [] _).drew (by simp)
theorem FieldsP.of_mod {w w1 w' : World} {k : Int} {e : Ending} (hm : Mod [] w w1) (h : FieldsP w1 k e w') : FieldsP w k e w' := by
  obtain ⟨g1, g2, v1, v2, he, h1, h2, h3, h4, h5⟩ := h
  have := hm.size
  exact ⟨g1, g2, v1, v2, he, h1, h2, hm.trans h3, by omega, by omega⟩
set_option maxHeartbeats 2000000 in
theorem fields_any (k : Int) (w : World) : Calls Try.prog 63 #[.int .i64 k] w (FieldsP w k) := by
  go_enter Try.func63, Try.ntmps63
  go_wp2_with fail
  refine (text_any _).mono ?_
  rintro e' w1 ⟨rfl, hm1⟩
  go_wp2_with fail
  refine (number_fld _).mono ?_
  rintro e' w2 ⟨rfl, hm2⟩
  go_wp2_with fail
  refine (at_fld _).mono ?_
  rintro e' w3 ⟨rfl, hm3⟩
  have HM := Lib.hid ((hm1.trans hm2).trans hm3)
  clear hm1 hm2 hm3
  have hb0 := ((Blk.new w3 120 #[.nilFunc, .nilFunc, .nilFunc]).alloc (.cells #[.nilFunc, .nilFunc, .nilFunc] 120)).alloc (.cells #[.nilFunc, .nilFunc, .nilFunc] 120)
  have hb1 := (Blk.new (w3.alloc (.cells #[.nilFunc, .nilFunc, .nilFunc] 120)) 120 #[.nilFunc, .nilFunc, .nilFunc]).alloc (.cells #[.nilFunc, .nilFunc, .nilFunc] 120)
  have hb2 := Blk.new ((w3.alloc (.cells #[.nilFunc, .nilFunc, .nilFunc] 120)).alloc (.cells #[.nilFunc, .nilFunc, .nilFunc] 120)) 120 #[.nilFunc, .nilFunc, .nilFunc]
  rw [heap_size_alloc] at hb1
  rw [heap_size_alloc, heap_size_alloc] at hb2
  have HB0 := Lib.hid hb0; have HB1 := Lib.hid hb1; have HB2 := Lib.hid hb2; clear hb0 hb1 hb2
  go_wp2_with (first | ((with_reducible refine wpList_store_blk rtFld (cells := Fld.text.cells) _ _ rfl ?hgd ?hx ?hy HB0.out ?hl ?hold (Fld.one _) ?_); (case hgd => exact rfl); (case hx => exact rfl); (case hy => exact rfl); (case hl => exact rfl); (case hold => exact rfl); intro w4 hv4 hm4; have HT4 := Lib.hid hv4; have HN4 := Lib.hid (HB1.out.mod hm4 (by simp)); have HA4 := Lib.hid (HB2.out.mod hm4 (by simp; omega)); have HM4 := Lib.hid (((((Mod.refl [] w3).alloc _).alloc _).alloc _).then hm4 (by simp)); clear hv4 hm4) | ((with_reducible refine wpList_store_blk rtFld (cells := Fld.number.cells) _ _ rfl ?hgd ?hx ?hy HN4.out ?hl ?hold (Fld.one _) ?_); (case hgd => exact rfl); (case hx => exact rfl); (case hy => exact rfl); (case hl => exact rfl); (case hold => exact rfl); intro w5 hv5 hm5; have HN5 := Lib.hid hv5; have HT5 := Lib.hid (HT4.out.mod hm5 (by simp)); have HA5 := Lib.hid (HA4.out.mod hm5 (by simp)); have HM5 := Lib.hid (HM4.out.then hm5 (by simp)); clear hv5 hm5) | ((with_reducible refine wpList_store_blk rtFld (cells := Fld.at_.cells) _ _ rfl ?hgd ?hx ?hy HA5.out ?hl ?hold (Fld.one _) ?_); (case hgd => exact rfl); (case hx => exact rfl); (case hy => exact rfl); (case hl => exact rfl); (case hold => exact rfl); intro w6 hv6 hm6; have HA := Lib.hid hv6; have HT := Lib.hid (HT5.out.mod hm6 (by simp; omega)); have HN := Lib.hid (HN5.out.mod hm6 (by simp)); have HM6 := Lib.hid (HM.out.trans (HM5.out.then hm6 (by simp; omega))); clear hv6 hm6 HM HM4 HM5 HB0 HB1 HB2 HT4 HN4 HA4 HT5 HN5 HA5))
  all_goals
    have t0 := HT.out.cell 0
    have t1 := HT.out.cell 1
    have t2 := HT.out.cell 2
    have n0 := HN.out.cell 0
    have n1 := HN.out.cell 1
    have n2 := HN.out.cell 2
    have a0 := HA.out.cell 0
    have a1 := HA.out.cell 1
    have a2 := HA.out.cell 2
    have tl := HT.out.lt
    have nl := HN.out.lt
    have al := HA.out.lt
    simp only [Fld.cells, List.getElem?_toArray, List.getElem?_cons_zero, List.getElem?_cons_succ, fnv] at t0 t1 t2 n0 n1 n2 a0 a1 a2
  · go_region
    all_goals
      go_wp2
      go_ret2
      (first | exact FieldsP.of_mod HM6.out (fields_ab w6 k [.text] [.number, .at_] (by decide) (by decide) (by simp_all [hasF]) (by simp_all [othersF])) | exact FieldsP.of_mod HM6.out (fields_ba w6 k [.text] [.number, .at_] (by decide) (by decide) (by simp_all [hasF]) (by simp_all [othersF])))
  · go_region
    all_goals
      go_wp2
      go_ret2
      (first | exact FieldsP.of_mod HM6.out (fields_ab w6 k [.text] [.number, .at_] (by decide) (by decide) (by simp_all [hasF]) (by simp_all [othersF])) | exact FieldsP.of_mod HM6.out (fields_ba w6 k [.text] [.number, .at_] (by decide) (by decide) (by simp_all [hasF]) (by simp_all [othersF])))
  · go_region
    all_goals
      go_wp2
      go_ret2
      (first | exact FieldsP.of_mod HM6.out (fields_ab w6 k [.text] [.number, .at_] (by decide) (by decide) (by simp_all [hasF]) (by simp_all [othersF])) | exact FieldsP.of_mod HM6.out (fields_ba w6 k [.text] [.number, .at_] (by decide) (by decide) (by simp_all [hasF]) (by simp_all [othersF])))
  · go_region
    all_goals
      go_wp2
      go_ret2
      (first | exact FieldsP.of_mod HM6.out (fields_ab w6 k [.number] [.text, .at_] (by decide) (by decide) (by simp_all [hasF]) (by simp_all [othersF])) | exact FieldsP.of_mod HM6.out (fields_ba w6 k [.number] [.text, .at_] (by decide) (by decide) (by simp_all [hasF]) (by simp_all [othersF])))
  · go_region
    all_goals
      go_wp2
      go_ret2
      (first | exact FieldsP.of_mod HM6.out (fields_ab w6 k [.text, .at_] [.number] (by decide) (by decide) (by simp_all [hasF]) (by simp_all [othersF])) | exact FieldsP.of_mod HM6.out (fields_ba w6 k [.text, .at_] [.number] (by decide) (by decide) (by simp_all [hasF]) (by simp_all [othersF])))
  · go_region
    all_goals
      go_wp2
      go_ret2
      (first | exact FieldsP.of_mod HM6.out (fields_ab w6 k [.at_] [.text, .number] (by decide) (by decide) (by simp_all [hasF]) (by simp_all [othersF])) | exact FieldsP.of_mod HM6.out (fields_ba w6 k [.at_] [.text, .number] (by decide) (by decide) (by simp_all [hasF]) (by simp_all [othersF])))
  · go_region
    all_goals
      go_wp2
      go_ret2
      exact FieldsP.of_mod HM6.out (fields_nb w6 k [.text, .number, .at_] (by decide) (by simp_all [hasF]) (by simp_all [othersF]))
end Go.Proofs.Ytlpjeckhejbkkaa
