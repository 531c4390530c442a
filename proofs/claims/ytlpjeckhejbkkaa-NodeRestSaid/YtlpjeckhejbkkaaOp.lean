import Derived.Test.YtlpjeckhejbkkaaVals
set_option linter.unusedVariables false
set_option linter.unusedSimpArgs false
set_option maxRecDepth 20000
set_option maxHeartbeats 400000
namespace Go.Proofs.Ytlpjeckhejbkkaa
open Go.RowKit

theorem ret_int {k : IntKind} {a b : Int} (h : a = b) : Ending.returned (.int k a) = .returned (.int k b) := by rw [h]
theorem ret_bool {a b : Bool} (h : a = b) : Ending.returned (.bool a) = .returned (.bool b) := by rw [h]
theorem cell_any (k : Int) (w : World) : Calls Try.prog 75 #[.int .i64 k] w fun e w' => e = .returned (.int .i64 (cellOf k)) ∧ w = w' := by
  go_enter Try.func75, Try.ntmps75
  go_wp2
  all_goals
    go_ret
    refine ⟨ret_int ?_, rfl⟩
    simp_all [cellOf]
theorem known_any (k : Int) (w : World) : Calls Try.prog 74 #[.int .i64 k] w fun e w' => e = .returned (.bool (known k)) ∧ w = w' := by
  go_enter Try.func74, Try.ntmps74
  go_wp2
  all_goals
    go_ret
    refine ⟨ret_bool ?_, rfl⟩
    simp_all [known] <;> omega
theorem same_any (a b : GOp) (w : World) : Calls Try.prog 37 #[a.val, b.val] w fun e w' => e = .returned (.bool (a == b)) ∧ Mod [] w w' := by
  go_enter Try.func37, Try.ntmps37
  go_wp2_with (first | (refine wpList_box_op _ rfl rfl (o := a) rfl ?_; intro q1 w1 hv1 hm1 hq1 hl1; have HV1 := Lib.hid hv1; have HM1 := Lib.hid hm1; clear hv1 hm1) | (refine wpList_box_op _ rfl rfl (o := b) rfl ?_; intro q2 w2 hv2 hm2 hq2 hl2; have HA : Hid (OpAt w2 q1 0 a) := Lib.hid (CellsAt.of_blk (HV1.out.mod hm2 (by simp))); have HB : Hid (OpAt w2 q2 0 b) := Lib.hid (CellsAt.of_blk hv2); have HM2 := Lib.hid hm2; clear hv2 hm2) | (refine wpList_load_op _ rfl rfl HA.out rfl ?_) | (refine wpList_load_op _ rfl rfl HB.out rfl ?_))
  go_ret
  exact ⟨rfl, HM1.out.trans HM2.out⟩
theorem zero_any (a : GIdent) (w : World) : Calls Try.prog 77 #[a.val] w fun e w' => e = .returned (.bool (a == GIdent.zero)) ∧ Mod [] w w' := by
  go_enter Try.func77, Try.ntmps77
  go_wp2_with (first | (refine wpList_box_ident _ rfl rfl (o := a) rfl ?_; intro q1 w1 hv1 hm1 hq1 hl1; obtain ⟨c32, HA0, HH0⟩ := hv1.open_; have HM1 := Lib.hid hm1; clear hv1 hm1) | (refine wpList_load_hash _ rfl rfl HH0.out rfl ?_))
  all_goals
    go_ret
    refine ⟨ret_bool ?_, HM1.out⟩
    rw [Bool.eq_iff_iff]
    obtain ⟨n, i⟩ := a
    simp_all [GIdent.zero]
theorem hasText_any (k : Int) (w : World) : Calls Try.prog 71 #[.int .i64 k] w fun e w' => e = .returned (.bool (hasText k)) ∧ w = w' := by
  go_enter Try.func71, Try.ntmps71
  go_wp2
  all_goals
    go_ret
    refine ⟨ret_bool ?_, rfl⟩
    simp_all [hasText]
theorem hasAt_any (k : Int) (w : World) : Calls Try.prog 73 #[.int .i64 k] w fun e w' => e = .returned (.bool (hasAt k)) ∧ w = w' := by
  go_enter Try.func73, Try.ntmps73
  go_wp2
  all_goals
    go_ret
    refine ⟨ret_bool ?_, rfl⟩
    simp_all [hasAt]
theorem op_beq_iff (a b : GOp) : (a == b) = true ↔ a.kind = b.kind ∧ a.key.toList = b.key.toList ∧ a.text.toList = b.text.toList ∧ a.n = b.n ∧ a.at_.op = b.at_.op ∧ a.at_.node = b.at_.node := by
  rw [beq_iff_eq]
  exact ⟨fun e => by rw [e]; simp, fun ⟨e0, e1, e2, e3, e4, e5⟩ => by
    obtain ⟨k, ky, t, n, ⟨h, i⟩⟩ := a
    obtain ⟨k', ky', t', n', ⟨h', i'⟩⟩ := b
    simp only at e1 e2
    rw [ByteArray.toList_eq, ByteArray.toList_eq] at e1 e2
    have := ba_ext e1
    have := ba_ext e2
    simp_all⟩
theorem refSame_any (a b : GOp) (w : World) : Calls Try.prog 29 #[a.val, b.val] w fun e w' => e = .returned (.bool (a == b)) ∧ Mod [] w w' := by
  go_enter Try.func29, Try.ntmps29
  go_wp2_with (first | ((with_reducible refine wpList_box_op _ rfl ?hgd (o := a) ?hx ?_); (case hgd => exact rfl); (case hx => exact rfl); intro q1 w1 hv1 hm1 hq1 hl1; have HV1 := Lib.hid hv1; have HM1 := Lib.hid hm1; clear hv1 hm1) | ((with_reducible refine wpList_box_op _ rfl ?hgd (o := b) ?hx ?_); (case hgd => exact rfl); (case hx => exact rfl); intro q2 w2 hv2 hm2 hq2 hl2; obtain ⟨c0, c1, c2, c3, c36, HA0, HA4, HH4⟩ := OpV.open_ (HV1.out.mod hm2 (by simp)); obtain ⟨d0, d1, d2, d3, d36, HB0, HB4, HG4⟩ := hv2.open_; have HM2 := Lib.hid hm2; clear hv2 hm2) | ((with_reducible refine wpList_load_hash _ rfl ?hgd HH4.out ?hx ?_); (case hgd => exact rfl); (case hx => exact rfl)) | ((with_reducible refine wpList_load_hash _ rfl ?hgd HG4.out ?hx ?_); (case hgd => exact rfl); (case hx => exact rfl)))
  all_goals
    go_ret
    refine ⟨ret_bool ?_, HM1.out.trans HM2.out⟩
    rw [Bool.eq_iff_iff, op_beq_iff]
    simp_all

theorem op_in {w w' : World} {S : List Nat} {q off : Nat} {o : GOp} (h : OpAt w q off o) (hm : Mod S w w') (hq : q ∉ S) : OpAt w' q off o := CellsAt.mod h hm hq
theorem ident_ne {a : GIdent} (h : (a == GIdent.zero) = false) : a ≠ GIdent.zero := by simpa using h
theorem atMay_zero {l : List GOp} {o : GOp} (h : (o.at_ == GIdent.zero) = true) : atMay l o = (o.kind == 8) := by
  have h := beq_iff_eq.1 h
  unfold atMay
  rw [h]
  simp [GIdent.zero]
theorem atMay_far {l : List GOp} {o : GOp} (h : (!o.at_.node == GHash.zero) = true) : atMay l o = decide (1 ≤ o.at_.op ∧ o.at_.op ≤ 1024) := by
  unfold atMay
  rw [if_neg (by simpa using h)]
theorem atMay_out {l : List GOp} {o : GOp} (h0 : (o.at_ == GIdent.zero) = false) (h : (!o.at_.node == GHash.zero) = false) (h1 : ¬ (1 ≤ o.at_.op ∧ o.at_.op ≤ l.length)) : atMay l o = false := by
  unfold atMay
  rw [if_pos (by simpa using h), if_neg, if_neg h1]
  intro e
  obtain ⟨k, ky, t, n, ⟨h, i⟩⟩ := o
  simp_all [GIdent.zero]
theorem atMay_in {l : List GOp} {o x : GOp} {j : Nat} (h : (!o.at_.node == GHash.zero) = false) (h1 : o.at_.op = (j : Int) + 1) (hj : j < l.length) (hx : l[j]? = some x) : atMay l o = (x.kind == 8 && x.key.toList == o.key.toList) := by
  unfold atMay
  rw [if_pos (by simpa using h), if_neg (by omega), if_pos (by omega), h1]
  have : ((j : Int) + 1 - 1).toNat = j := by omega
  rw [this, hx, ← beq_toListBytes]
/-- right -/
theorem right_any (l : List GOp) (o : GOp) (g : Nat) (v : Value) (w : World) (hs : OS w g v l) :
    Calls Try.prog 76 #[v, o.val] w fun e w' => e = .returned (.bool (atMay l o)) ∧ Mod [] w w' := by
  by_cases hin : 1 ≤ o.at_.op ∧ o.at_.op ≤ l.length
  · obtain ⟨j, hj⟩ : ∃ j : Nat, o.at_.op = (j : Int) + 1 := ⟨(o.at_.op - 1).toNat, by omega⟩
    have hjl : j < l.length := by omega
    obtain ⟨off, cap, rfl, h1, h2, _, hit⟩ := hs.item (by omega)
    have HJ0 := Lib.hid (hit j hjl)
    have HE : Hid (l[j]? = some l[j]) := Lib.hid (by simp [hjl])
    have HW : Hid (o.at_.op = (j : Int) + 1) := Lib.hid hj
    have hjb : j ≤ 9223372036854775806 := by unfold maxLen at h2; omega
    clear hit hin hs hj h1 h2
    go_enter Try.func76, Try.ntmps76
    go_wp2_with (first | ((with_reducible refine wpList_box_op _ rfl ?hgd (o := o) ?hx ?_); (case hgd => exact rfl); (case hx => exact rfl); intro q1 w1 hv1 hm1 hq1 hl1; obtain ⟨c0, c1, c2, c3, c36, HA0, HA4, HH4⟩ := hv1.open_; rw [HW.out] at c36; have HJ := Lib.hid (op_in HJ0.out hm1 (by simp)); have HM1 := Lib.hid hm1; clear hv1 hm1) | ((with_reducible refine wpList_load_ident _ rfl ?hgd HA4.out ?hx ?_); (case hgd => exact rfl); (case hx => exact rfl)) | ((with_reducible refine wpList_load_hash _ rfl ?hgd HH4.out ?hx ?_); (case hgd => exact rfl); (case hx => exact rfl)) | ((with_reducible refine wpList_load_op _ rfl ?hgd HJ.out ?hx ?_); (case hgd => exact rfl); (case hx => exact rfl)) | ((with_reducible refine wpList_store_op (o := l[j]) _ _ rfl ?hgd ?hx ?hy (Blk.new _ _ _) ?hold ?_); (case hgd => exact rfl); (case hx => exact rfl); (case hy => exact rfl); (case hold => exact rfl); intro w2 hv2 hm2; obtain ⟨d0, d1, d2, d3, d36, HB0, HB4, HG4⟩ := hv2.open_; have hm3 := ((Mod.refl [w1.heap.size] w1).alloc _).trans hm2; have e1 := hm3.cell (p := ⟨q1, 1, none⟩) hl1 (by simp; omega); rw [c1] at e1; have HM2 := Lib.hid hm3; clear hm2 hm3 hv2 c0 c1 c2 c3 c36 HA0 HA4 HH4))
    all_goals
      go_ret
      first
        | (refine ⟨ret_bool ?_, HM1.out⟩
           first | (rw [atMay_zero (by assumption)]) | (rw [atMay_far (by assumption), Bool.eq_iff_iff, HW.out]; simp only [decide_eq_true_eq, Bool.false_eq_true, false_iff]; omega))
        | (refine ⟨ret_bool ?_, HM1.out.then HM2.out (by simp; have := HM1.out.size; omega)⟩
           rw [atMay_in (by assumption) HW.out (by assumption) HE.out]
           simp_all)
        | trace_state
  · obtain ⟨A, cap, rfl, _, _⟩ := hs.val
    clear hs
    have HIN := Lib.hid hin
    go_enter Try.func76, Try.ntmps76
    go_wp2_with (first | ((with_reducible refine wpList_box_op _ rfl ?hgd (o := o) ?hx ?_); (case hgd => exact rfl); (case hx => exact rfl); intro q1 w1 hv1 hm1 hq1 hl1; obtain ⟨c0, c1, c2, c3, c36, HA0, HA4, HH4⟩ := hv1.open_; have HM1 := Lib.hid hm1; clear hv1 hm1) | ((with_reducible refine wpList_load_ident _ rfl ?hgd HA4.out ?hx ?_); (case hgd => exact rfl); (case hx => exact rfl)) | ((with_reducible refine wpList_load_hash _ rfl ?hgd HH4.out ?hx ?_); (case hgd => exact rfl); (case hx => exact rfl)))
    all_goals
      go_ret
      refine ⟨ret_bool ?_, HM1.out⟩
      first | (rw [atMay_zero (by assumption)]) | (rw [atMay_far (by assumption), Bool.eq_iff_iff]; simp only [decide_eq_true_eq, Bool.false_eq_true, false_iff]; omega) | (rw [atMay_out (by assumption) (by assumption) HIN.out]) | trace_state
end Go.Proofs.Ytlpjeckhejbkkaa
