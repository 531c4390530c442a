import Derived.Test.YtlpjeckhejbkkaaNCmp
import Derived.Test.YtlpjeckhejbkkaaReg
set_option linter.unusedVariables false
set_option linter.unusedSimpArgs false
set_option maxRecDepth 20000
set_option maxHeartbeats 800000
namespace Go.Proofs.Ytlpjeckhejbkkaa
open Go.RowKit

theorem bytesCompare_any {w : World} {g k : Nat} {v u : Value} {xs ys : Bytes} (h : BS w g v xs) (h' : BS w k u ys) (hl : xs.length = ys.length) :
    Calls Try.prog 67 #[v, u] w fun e w' => e = .returned (.int .i64 (cmpB xs ys)) ∧ w = w' := by
  have hc := bytealg_any h h' hl
  go_enter Try.func67, Try.ntmps67
  go_wp2
  go_ret
  exact ⟨rfl, rfl⟩
theorem GHash.bs {w : World} {q : Nat} {h : GHash} {t : TypeId} (hb : Blk w q t h.cells.toArray) : BS w q (.slice (some ⟨q, 0, none⟩) 32 32) h.l := by
  unfold BS
  rw [h.h]
  refine ⟨by simp [h.h], _, 32, rfl, Nat.le_refl _, by decide, fun _ => ⟨0, rfl, hb.lt, fun i u hu => ?_⟩⟩
  rw [Nat.zero_add, hb.cell i]
  simpa [GHash.cells] using hu
theorem shaCompare_any (a b : GHash) (w : World) : Calls Try.prog 50 #[a.val, b.val] w fun e w' => e = .returned (.int .i64 (cmpB a.l b.l)) ∧ Mod [] w w' := by
  have HC : Hid ((a == b) = true → cmpB a.l b.l = 0) := Lib.hid (fun h => by have e := beq_iff_eq.1 h; subst e; exact cmpB_self _)
  go_enter Try.func50, Try.ntmps50
  go_wp2_with (first | ((with_reducible refine wpList_box _ rfl ?hgd (cs := a.cells) ?hx ?_); (case hgd => exact rfl); (case hx => exact rfl); intro q1 w1 hv1 hm1 hq1 hl1; have HV1 := Lib.hid hv1; have HM1 := Lib.hid hm1; clear hv1 hm1) | ((with_reducible refine wpList_box _ rfl ?hgd (cs := b.cells) ?hx ?_); (case hgd => exact rfl); (case hx => exact rfl); intro q2 w2 hv2 hm2 hq2 hl2; have HA : Hid (Blk w2 q1 46 a.cells.toArray) := Lib.hid (HV1.out.mod hm2 (by simp)); have HB := Lib.hid hv2; have HA0 : Hid (HashAt w2 q1 0 a) := Lib.hid (CellsAt.of_blk HA.out); have HB0 : Hid (HashAt w2 q2 0 b) := Lib.hid (CellsAt.of_blk hv2); have HM2 := Lib.hid (HM1.out.trans hm2); clear hv2 hm2) | ((with_reducible refine wpList_load_hash _ rfl ?hgd HA0.out ?hx ?_); (case hgd => exact rfl); (case hx => exact rfl)) | ((with_reducible refine wpList_load_hash _ rfl ?hgd HB0.out ?hx ?_); (case hgd => exact rfl); (case hx => exact rfl)))
  · go_ret
    refine ⟨ret_int ?_, HM2.out⟩
    rw [HC.out (by assumption)]
  · go_quiet ((go_at_call 67; exact quiet_left (bytesCompare_any (GHash.bs (HA.out.drewN _)) (GHash.bs (HB.out.drewN _)) (by rw [a.h, b.h]))))
    go_wp2
    go_ret
    exact ⟨rfl, HM2.out.drewN _⟩
end Go.Proofs.Ytlpjeckhejbkkaa
