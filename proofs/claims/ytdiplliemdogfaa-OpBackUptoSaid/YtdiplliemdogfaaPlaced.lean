import Derived.Test.YtdiplliemdogfaaRGet
set_option linter.unusedVariables false
set_option linter.unusedSimpArgs false
set_option maxRecDepth 20000
set_option maxHeartbeats 1600000
namespace Go.Proofs.Ytdiplliemdogfaa
open Go.RowKit

theorem assert_bad (v : Value) (w : World) : (Instr.typeAssert (.iface 102 v) 48 102 true).run Try.prog w = .ok (.tuple #[v, .bool true]) w := by kernel_rfl
theorem placed_nil (w : World) : Calls Try.prog 31 #[.nilIface] w fun e w' => e = .returned (.tuple #[errV 0 0, .bool true]) ∧ Mod [] w w' := by
  have HE := Lib.hid (Blk.new w 57 #[.int .i64 0, .int .i64 0])
  go_enter Try.func31, Try.ntmps31
  have h0 := HE.out.cell 0
  have h1 := HE.out.cell 1
  have f0 := HE.out.frozen 0
  have f1 := HE.out.frozen 1
  go_wp2
  exact bodyPost_ret (results_row_tmp rtErr rfl rfl HE.out rfl) rfl ⟨rfl, (Mod.refl [] w).alloc _⟩
theorem placed_bad (w : World) (b y a : Nat) (hb : BadAt w b y a) (hy : y ≠ 0) : Calls Try.prog 31 #[badV b] w fun e w' => e = .returned (.tuple #[errV y a, .bool true]) ∧ Mod [] w w' := by
  have HE := Lib.hid (Blk.new w 57 #[.int .i64 0, .int .i64 0])
  have HB := Lib.hid (hb.mod ((Mod.refl [] w).alloc (.cells #[.int .i64 0, .int .i64 0] 57)) (by simp))
  have HM := Lib.hid ((Mod.refl [] w).alloc (.cells #[.int .i64 0, .int .i64 0] 57))
  obtain ⟨w1, hw1⟩ : ∃ w1, w.alloc (.cells #[.int .i64 0, .int .i64 0] 57) = w1 := ⟨_, rfl⟩
  obtain ⟨z, hz⟩ : ∃ z, w.heap.size = z := ⟨_, rfl⟩
  rw [hw1] at HE HB HM
  rw [hz] at HE
  have HZ := Lib.hid hz
  have hbz : b ≠ z := by have := hb.lt; omega
  have hzb : z ≠ b := by omega
  clear hb
  go_enter Try.func31, Try.ntmps31
  unfold badV
  have has := assert_bad (ptr b) w1
  go_upto_region 4 with fail
  clear has hw1 hz
  have hz0 := HE.out.cell 0
  have hz1 := HE.out.cell 1
  have f0 := HE.out.frozen 0
  have f1 := HE.out.frozen 1
  have hzl := HE.out.lt
  have c0 := HB.out.cell 0
  have c1 := HB.out.cell 1
  have hbl := HB.out.lt
  have hy0 : ¬ ((y : Int) = 0) := by omega
  go_wp2_with fail
  go_region
  go_wp2
  have hyb : ((y : Int) != 0) = true := by simp; omega
  rw [hyb]
  have hB := Blk.drew ((HE.out.set_ 0 (.int .i64 (y : Int))).set_ 1 (.int .i64 (a : Int)))
  have hM : Mod [] w ((w1.setCell ⟨z, 0, none⟩ (.int .i64 (y : Int))).setCell ⟨z, 1, none⟩ (.int .i64 (a : Int))).drew := HM.out.then (((Mod.refl [z] w1).setCell _ (by simp) _).setCell _ (by simp) _).drew (by have := HZ.out; simp; omega)
  exact bodyPost_ret (results_row_tmp rtErr rfl rfl hB rfl) rfl ⟨rfl, hM⟩
end Go.Proofs.Ytdiplliemdogfaa
