import Derived.Test.YtlpjeckhejbkkaaFix
set_option linter.unusedVariables false
set_option linter.unusedSimpArgs false
set_option maxRecDepth 20000
set_option maxHeartbeats 800000
namespace Go.Proofs.Ytlpjeckhejbkkaa
open Go.RowKit

theorem wpList_store_ident {ops : Array Oper} {rest : List Oper} {op : Oper} {a : Act} {w : World} {Q : Exit → Act → World → Prop} (x y : Operand) (ho : op.op = .store 72 x y) (hgd : Region.wanted op (yielded ops a.tmps) = true) {g : Nat} {o : GIdent} {old : Array Value} (hx : a.eval x = .pointer (some ⟨g, 0, none⟩)) (hy : a.eval y = o.val) (hb : Blk w g 72 old) (hold : old.size = 33)
    (h : ∀ w', IdV w' g o → Mod [g] w w' → wpList Try.prog ops Q rest (a.put op.dst undef) w') : wpList Try.prog ops Q (op :: rest) a w :=
  wpList_store_blk rtIdent x y ho hgd hx hy hb o.cells_length hold o.one h
theorem id_zero {a : GIdent} (h : a.node = GHash.zero) (h0 : a.op = 0) : (a == GIdent.zero) = true := by
  obtain ⟨n, i⟩ := a
  simp_all [GIdent.zero]
theorem id_zero' {a : GIdent} (h0 : (a.op == 0) = false) : (a == GIdent.zero) = false := by
  obtain ⟨n, i⟩ := a
  rw [beq_eq_false_iff_ne]
  rintro e
  simp_all [GIdent.zero]
theorem atMay_zero2 {l : List GOp} {o : GOp} (h : o.at_.node = GHash.zero) (h0 : (o.at_.op == 0) = true) : atMay l o = (o.kind == 8) := atMay_zero (id_zero h (by simpa using h0))
theorem atMay_far2 {l : List GOp} {o : GOp} (h : ¬ o.at_.node = GHash.zero) : atMay l o = decide (1 ≤ o.at_.op ∧ o.at_.op ≤ 1024) := atMay_far (by simpa using h)
theorem atMay_out2 {l : List GOp} {o : GOp} (h : o.at_.node = GHash.zero) (h0 : (o.at_.op == 0) = false) (h1 : ¬ (1 ≤ o.at_.op ∧ o.at_.op ≤ l.length)) : atMay l o = false := atMay_out (id_zero' h0) (by simpa using h) h1
theorem atMay_in2 {l : List GOp} {o x : GOp} {j : Nat} (h : o.at_.node = GHash.zero) (h1 : o.at_.op = (j : Int) + 1) (hj : j < l.length) (hx : l[j]? = some x) : atMay l o = (x.kind == 8 && x.key.toList == o.key.toList) := atMay_in (by simpa using h) h1 hj hx
theorem OS.lt {w : World} {g : Nat} {v : Value} {l : List GOp} (h : OS w g v l) (h0 : 0 < l.length) : g < w.heap.size := by
  obtain ⟨_, _, _, _, _, h, _⟩ := h.at_ h0
  exact h
theorem refAtMay_any (l : List GOp) (i : Nat) (hi : i < l.length) (g : Nat) (v : Value) (w : World) (hs : OS w g v l) :
    Calls Try.prog 78 #[v, .int .i64 (i : Int)] w fun e w' => e = .returned (.bool (atMay (l.take i) l[i])) ∧ Mod [] w w' := by
  obtain ⟨off, cap, rfl, h1, h2, hgl, hit⟩ := hs.item (by omega)
  have HJ := Lib.hid (hit i hi)
  have HLT : Hid ((l.take i).length = i) := Lib.hid (by simp; omega)
  have hib : i ≤ 9223372036854775806 := by unfold maxLen at h2; omega
  by_cases hin : 1 ≤ l[i].at_.op ∧ l[i].at_.op ≤ i
  · obtain ⟨j, hj⟩ : ∃ j : Nat, l[i].at_.op = (j : Int) + 1 := ⟨(l[i].at_.op - 1).toNat, by omega⟩
    have hji : j < i := by omega
    have hjl : j < l.length := by omega
    have HX := Lib.hid (hit j hjl)
    have HE : Hid ((l.take i)[j]? = some l[j]) := Lib.hid (by rw [List.getElem?_take_of_lt hji]; simp [hjl])
    have HW : Hid (l[i].at_.op = (j : Int) + 1) := Lib.hid hj
    have hjb : j ≤ 9223372036854775806 := by omega
    clear hit hin hs hj h1 h2
    go_enter Try.func78, Try.ntmps78
    go_wp2_with (first | ((with_reducible refine wpList_load_ident _ rfl ?hgd HJ.out.at_ ?hx ?_); (case hgd => exact rfl); (case hx => exact rfl)) | ((with_reducible refine wpList_store_ident (o := l[i].at_) _ _ rfl ?hgd ?hx ?hy (Blk.new _ _ _) ?hold ?_); (case hgd => exact rfl); (case hx => exact rfl); (case hy => exact rfl); (case hold => exact rfl); intro w2 hv2 hm2; obtain ⟨d32, _, HD⟩ := hv2.open_; have hm3 := ((Mod.refl [] w).alloc _).then hm2 (by simp); have hj2 := op_in HJ.out hm3 (by simp); have ek := hj2.kind; have ey := hj2.key; rw [HW.out] at d32; have HX2 := Lib.hid (op_in HX.out hm3 (by simp)); have HM := Lib.hid hm3; clear hv2 hm2 hm3 hj2) | ((with_reducible refine wpList_load_hash _ rfl ?hgd HD.out ?hx ?_); (case hgd => exact rfl); (case hx => exact rfl)) | ((with_reducible refine wpList_load_op _ rfl ?hgd HX2.out ?hx ?_); (case hgd => exact rfl); (case hx => exact rfl)) | ((with_reducible refine wpList_store_op (o := l[j]) _ _ rfl ?hgd ?hx ?hy (Blk.new _ _ _) ?hold ?_); (case hgd => exact rfl); (case hx => exact rfl); (case hy => exact rfl); (case hold => exact rfl); intro w4 hv4 hm4; obtain ⟨x0, x1, x2, x3, x36, _, _, _⟩ := hv4.open_; have hm5 := ((Mod.refl [] w2).alloc _).then hm4 (by simp); have ey4 := hm5.cell (p := ⟨g, off + i * 37 + 1, none⟩) (by have := HM.out.size; show g < w2.heap.size; omega) (by simp); rw [ey] at ey4; have HM4 := Lib.hid (HM.out.trans hm5); clear hv4 hm4 hm5 ek ey))
    all_goals first
      | (exfalso; simp_all; done)
      | (go_ret
         refine ⟨ret_bool ?_, HM.out⟩
         rw [atMay_far2 (by assumption), Bool.eq_iff_iff, HW.out]; simp only [decide_eq_true_eq, Bool.false_eq_true, false_iff]; omega)
      | skip
    all_goals
      have HNZ : Hid (l[i].at_.node = GHash.zero) := Lib.hid (by assumption)
      obtain ⟨kj, hkj⟩ : ∃ x, l[j].kind = x := ⟨_, rfl⟩
      obtain ⟨yj, hyj⟩ : ∃ x, l[j].key = x := ⟨_, rfl⟩
      obtain ⟨yi, hyi⟩ : ∃ x, l[i].key = x := ⟨_, rfl⟩
      rw [hkj] at x0
      rw [hyj] at x1
      rw [hyi] at ey4
      have HR : Hid (atMay (l.take i) l[i] = (kj == 8 && yj.toList == yi.toList)) := Lib.hid (by rw [atMay_in2 HNZ.out HW.out (by rw [HLT.out]; exact hji) HE.out, hkj, hyj, hyi])
      clear hkj hyj hyi x2 x3 x36 HX2 HD d32
      dsimp only [Act.put]
      by_cases hk8 : kj = 8
      · subst hk8
        go_quiet (fail)
        go_wp2
        go_ret
        refine ⟨ret_bool ?_, HM4.out.drewN _⟩
        rw [HR.out]
        simp
      · have hk9 : (kj == 8) = false := by simpa using hk8
        go_quiet (fail)
        go_wp2
        go_ret
        refine ⟨ret_bool ?_, HM4.out.drewN _⟩
        rw [HR.out, hk9]
        rfl
  · have HIN : Hid (¬ (1 ≤ l[i].at_.op ∧ l[i].at_.op ≤ (l.take i).length)) := Lib.hid (by rw [HLT.out]; exact hin)
    clear hit hs h1 h2
    go_enter Try.func78, Try.ntmps78
    go_wp2_with (first | ((with_reducible refine wpList_load_ident _ rfl ?hgd HJ.out.at_ ?hx ?_); (case hgd => exact rfl); (case hx => exact rfl)) | ((with_reducible refine wpList_store_ident (o := l[i].at_) _ _ rfl ?hgd ?hx ?hy (Blk.new _ _ _) ?hold ?_); (case hgd => exact rfl); (case hx => exact rfl); (case hy => exact rfl); (case hold => exact rfl); intro w2 hv2 hm2; obtain ⟨d32, _, HD⟩ := hv2.open_; have hm3 := ((Mod.refl [] w).alloc _).then hm2 (by simp); have hj2 := op_in HJ.out hm3 (by simp); have ek := hj2.kind; have ey := hj2.key; have HM := Lib.hid hm3; clear hv2 hm2 hm3 hj2) | ((with_reducible refine wpList_load_hash _ rfl ?hgd HD.out ?hx ?_); (case hgd => exact rfl); (case hx => exact rfl)))
    all_goals first
      | (exfalso; simp_all; done)
      | (go_ret
         refine ⟨ret_bool ?_, HM.out⟩
         first | (rw [atMay_far2 (by assumption), Bool.eq_iff_iff]; simp only [decide_eq_true_eq, Bool.false_eq_true, false_iff]; omega) | (rw [atMay_zero2 (by assumption) (by assumption)]) | (rw [atMay_out2 (by assumption) (by assumption) HIN.out]))
      | trace_state
end Go.Proofs.Ytlpjeckhejbkkaa
