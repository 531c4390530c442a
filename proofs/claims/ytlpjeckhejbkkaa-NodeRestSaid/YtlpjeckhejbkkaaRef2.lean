import Derived.Test.YtlpjeckhejbkkaaRef
set_option linter.unusedVariables false
set_option linter.unusedSimpArgs false
set_option maxRecDepth 20000
set_option maxHeartbeats 1600000
namespace Go.Proofs.Ytlpjeckhejbkkaa
open Go.RowKit

theorem toList_nil (s : ByteArray) : s.toList = [] ↔ s.size = 0 := by
  rw [ByteArray.toList_eq]
  exact List.length_eq_zero_iff.symm
theorem refWrong_any (l : List GOp) (i : Nat) (hi : i < l.length) (g : Nat) (v : Value) (w : World) (hs : OS w g v l) :
    Calls Try.prog 58 #[v, .int .i64 (i : Int)] w fun e w' => e = .returned (.int .i64 (wrongOp (l.take i) l[i])) ∧ Mod [] w w' := by
  obtain ⟨off, cap, rfl, h1, h2, hgl, hit⟩ := hs.item (by omega)
  have HJ := Lib.hid (hit i hi)
  have HS := Lib.hid hs
  have hib : i ≤ 9223372036854775806 := by unfold maxLen at h2; omega
  clear hit hs h1 h2
  go_enter Try.func58, Try.ntmps58
  go_wp2_with (first | ((with_reducible refine wpList_load_op _ rfl ?hgd HJ.out ?hx ?_); (case hgd => exact rfl); (case hx => exact rfl)) | ((with_reducible refine wpList_store_op (o := l[i]) _ _ rfl ?hgd ?hx ?hy (Blk.new _ _ _) ?hold ?_); (case hgd => exact rfl); (case hx => exact rfl); (case hy => exact rfl); (case hold => exact rfl); intro w2 hv2 hm2; have hm3 := ((Mod.refl [] w).alloc _).then hm2 (by simp); obtain ⟨d0, d1, d2, d3, d36, HD0, HD4, _⟩ := hv2.open_; have HV2 := Lib.hid hv2; have HS2 : Hid (OS w2 g _ l) := Lib.hid (HS.out.mod hm3 (by simp)); have HM := Lib.hid hm3; clear hv2 hm2 hm3; dsimp only [Act.put]) | (go_at_call 71; refine (hasText_any _ _).mono ?_; rintro e' w3 ⟨rfl, rfl⟩) | (go_at_call 73; refine (hasAt_any _ _).mono ?_; rintro e' w3 ⟨rfl, rfl⟩) | ((with_reducible refine wpList_load_ident _ rfl ?hgd HD4.out ?hx ?_); (case hgd => exact rfl); (case hx => exact rfl)))
  refine (zero_any _ _).mono ?_
  rintro e' w4 ⟨rfl, hm4⟩
  have HM4 := Lib.hid (HM.out.trans hm4)
  have HS4 : Hid (OS w4 g _ l) := Lib.hid (HS2.out.mod hm4 (by simp))
  have HV4 : Hid (OpV w4 w.heap.size l[i]) := Lib.hid (HV2.out.mod hm4 (by simp))
  clear d0 d1 d2 d3 d36 HD0 HD4 HM hm4 HS2 HV2
  obtain ⟨d0, d1, d2, d3, d36, _, _, _⟩ := HV4.out.open_
  by_cases hk : known l[i].kind = true
  · have hk9 := hk
    unfold known at hk9
    have hk9 := of_decide_eq_true hk9
    by_cases hz : 65536 < l[i].key.size ∨ 65536 < l[i].text.size
    · go_wp2_with fail
      all_goals
        go_ret
        refine ⟨ret_int ?_, HM4.out⟩
        rw [wrong4 (by simp [hk]) hz]
        rfl
    · have hz1 : l[i].key.size ≤ 65536 := by omega
      have hz2 : l[i].text.size ≤ 65536 := by omega
      have htz : l[i].text.toList = [] ↔ l[i].text.size = 0 := toList_nil l[i].text
      go_wp2_with (first | (go_at_call 78; refine (refAtMay_any l i hi g _ w4 HS4.out).mono ?_; rintro e' w5 ⟨rfl, hm5⟩; have HM5 := Lib.hid (HM4.out.trans hm5); clear hm5))
      all_goals
        go_ret
        first
          | (refine ⟨ret_int ?_, HM5.out⟩; rw [wrong42 (by simp [hk]) hz (by unfold bad41; simp_all) (by simp_all)]; rfl)
          | (refine ⟨ret_int ?_, HM5.out⟩; rw [wrong0 (by simp [hk]) hz (by unfold bad41; simp_all) (by simp_all)]; rfl)
          | (refine ⟨ret_int ?_, HM4.out⟩; rw [wrong41 (by simp [hk]) hz (by unfold bad41; simp_all)]; rfl)
          | (refine ⟨ret_int ?_, HM4.out⟩; rw [wrong0 (by simp [hk]) hz (by unfold bad41; simp_all) (by simp_all)]; rfl)
          | trace_state
  · have hk9 : ¬ (1 ≤ l[i].kind ∧ l[i].kind ≤ 9) := fun h => hk (by unfold known; exact decide_eq_true h)
    go_wp2_with fail
    all_goals
      go_ret
      refine ⟨ret_int ?_, HM4.out⟩
      rw [wrong40 (by simp [hk])]
      rfl
end Go.Proofs.Ytlpjeckhejbkkaa
