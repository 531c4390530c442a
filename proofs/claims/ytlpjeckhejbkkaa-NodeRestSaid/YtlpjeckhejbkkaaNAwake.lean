import Derived.Test.YtlpjeckhejbkkaaNDec
import Derived.Test.YtlpjeckhejbkkaaNLay
set_option linter.unusedVariables false
set_option linter.unusedSimpArgs false
set_option maxRecDepth 20000
set_option maxHeartbeats 1600000
namespace Go.Proofs.Ytlpjeckhejbkkaa
open Go.RowKit

/-! ### an error as the document has it; some fixed answers -/
theorem assert_bad (v : Value) (w : World) : (Instr.typeAssert (.iface 60 v) 32 60 true).run Try.prog w = .ok (.tuple #[v, .bool true]) w := by kernel_rfl
theorem told_nil (w : World) : Calls Try.prog 12 #[.nilIface] w fun e w' => e = .returned (.tuple #[errV 0 0, .bool true]) ∧ Mod [] w w' := by
  have HE := Lib.hid (Blk.new w 36 #[.int .i64 0, .int .i64 0])
  go_enter Try.func12, Try.ntmps12
  have h0 := HE.out.cell 0
  have h1 := HE.out.cell 1
  have f0 := HE.out.frozen 0
  have f1 := HE.out.frozen 1
  go_wp2
  exact bodyPost_ret (results_row_tmp rtErr rfl rfl HE.out rfl) rfl ⟨rfl, (Mod.refl [] w).alloc _⟩
theorem told_bad (w : World) (b y a : Nat) (hb : BadAt w b y a) (hy : y ≠ 0) : Calls Try.prog 12 #[badV b] w fun e w' => e = .returned (.tuple #[errV y a, .bool true]) ∧ Mod [] w w' := by
  have HE := Lib.hid (Blk.new w 36 #[.int .i64 0, .int .i64 0])
  have HB := Lib.hid (Blk.mod hb ((Mod.refl [] w).alloc (.cells #[.int .i64 0, .int .i64 0] 36)) (by simp))
  have HM := Lib.hid ((Mod.refl [] w).alloc (.cells #[.int .i64 0, .int .i64 0] 36))
  obtain ⟨w1, hw1⟩ : ∃ w1, w.alloc (.cells #[.int .i64 0, .int .i64 0] 36) = w1 := ⟨_, rfl⟩
  obtain ⟨z, hz⟩ : ∃ z, w.heap.size = z := ⟨_, rfl⟩
  rw [hw1] at HE HB HM
  rw [hz] at HE
  have HZ := Lib.hid hz
  have hbz : b ≠ z := by have := hb.lt; omega
  have hzb : z ≠ b := by omega
  clear hb
  go_enter Try.func12, Try.ntmps12
  unfold badV
  have has := assert_bad (ptr b) w1
  have c0 := HB.out.cell 0
  have hy0 : ((y : Int) == 0) = false := by simp; omega
  have hy1 : ¬ ((y : Int) = 0) := by omega
  go_upto_region 6 with fail
  clear has hw1 hz c0
  have hz0 := HE.out.cell 0
  have hz1 := HE.out.cell 1
  have f0 := HE.out.frozen 0
  have f1 := HE.out.frozen 1
  have hzl := HE.out.lt
  have c0 := HB.out.cell 0
  have c1 := HB.out.cell 1
  have hbl := HB.out.lt
  go_region
  go_wp2
  have hB := Blk.drew ((HE.out.set_ 0 (.int .i64 (y : Int))).set_ 1 (.int .i64 (a : Int)))
  have hM : Mod [] w ((w1.setCell ⟨z, 0, none⟩ (.int .i64 (y : Int))).setCell ⟨z, 1, none⟩ (.int .i64 (a : Int))).drew := HM.out.then (((Mod.refl [z] w1).setCell _ (by simp) _).setCell _ (by simp) _).drew (by have := HZ.out; simp; omega)
  exact bodyPost_ret (results_row_tmp rtErr rfl rfl hB rfl) rfl ⟨rfl, hM⟩
theorem enc_one : encOf ⟨1, 1, [], []⟩ = ([1, 1, 1, 0, 0], 0) := by
  have h0 : checkNode ⟨1, 1, [], []⟩ = 0 := by decide
  have h1 : nodeBlock ⟨1, 1, [], []⟩ = [1, 1, 1, 0, 0] := by
    have e1 : putNum 1 = [1] := putNum_lt (by omega)
    have e0 : putNum 0 = [0] := putNum_lt (by omega)
    simp [nodeBlock, putOps, e1, e0]
  unfold encOf
  rw [if_pos h0, h1]
  rfl
theorem dec_one : rdNode [1, 2, 1, 0, 0] = .ok ⟨2, 1, [], []⟩ 5 := by rfl
theorem dec_nine : rdNode [1, 9] = .bad 50 1 := by rfl
theorem bs_of_blk {w : World} {g : Nat} {t : TypeId} {xs : Bytes} (hb : Blk w g t (xs.map bv).toArray) (hz : xs.length ≤ 1000000) : BS w g (.slice (some ⟨g, 0, none⟩) xs.length xs.length) xs :=
  ⟨by simp, _, _, rfl, Nat.le_refl _, by unfold maxLen; omega, fun _ => ⟨0, rfl, hb.lt, fun i u hu => by rw [Nat.zero_add, hb.cell i]; simpa using hu⟩⟩
theorem nodR_nil (w : World) (au cl : Int) : NodR w ⟨au, cl, [], []⟩ 0 0 (.slice none 0 0) (.slice none 0 0) := ⟨RS.nil w 32 0, RS.nil w 37 0⟩
def AW (w : World) (q g1 : Nat) (v1 pv ov : Value) (w' : World) : Prop := NodB w' q 2 1 pv ov ∧ BS w' g1 v1 [1, 1, 1, 0, 0] ∧ OwnH w' pv [] ∧ OwnO w' ov [] ∧ Mod [] w w'
theorem AW.mod {w w1 w2 : World} {q g1 : Nat} {v1 pv ov : Value} (h : AW w q g1 v1 pv ov w1) (hm : Mod [] w1 w2) : AW w q g1 v1 pv ov w2 :=
  ⟨h.1.mod hm (by simp), h.2.1.mod hm (by simp), h.2.2.1.mod hm (by simp), h.2.2.2.1.mod hm (by simp), h.2.2.2.2.trans hm⟩
theorem awake_any (w : World) : Calls Try.prog 9 #[] w fun e w' => e = .returned (.bool true) ∧ Mod [] w w' := by
  go_enter Try.func9, Try.ntmps9
  go_wp2_with fail
  have HEN : Hid (Calls Try.prog 10 #[.agg #[.int .i64 1, .int .i64 1, .slice none 0 0, .slice none 0 0]] w (EncP w ([1, 1, 1, 0, 0], 0))) := Lib.hid (by
    have h := encode_any ⟨1, 1, [], []⟩ 0 0 _ _ w (nodR_nil w 1 1) (by simp)
    rw [enc_one] at h
    exact h)
  refine HEN.out.mono ?_
  rintro e' w1 ⟨v1, rfl, hown1, hm1, _⟩
  obtain ⟨g1, hb1, _⟩ := hown1.bs
  obtain ⟨A1, c1, rfl, _, _⟩ := hb1.val
  have HB1 := Lib.hid hb1
  have HM1 := Lib.hid hm1
  clear hown1 hb1 hm1 HEN
  go_wp2_with fail
  have hm2 : Mod [] w1 (w1.alloc (.cells #[.int .u8 1, .int .u8 2, .int .u8 1, .int .u8 0, .int .u8 0] 5)) := (Mod.refl [] w1).alloc _
  have HD1 := Lib.hid (decode_any [1, 2, 1, 0, 0] w1.heap.size _ _ (bs_of_blk (xs := [1, 2, 1, 0, 0]) (Blk.new w1 5 #[.int .u8 1, .int .u8 2, .int .u8 1, .int .u8 0, .int .u8 0]) (by decide)))
  rw [dec_one] at HD1
  refine HD1.out.mono ?_
  rintro e' w2 ⟨pv, ov, rfl, hown1, hown2, _, _, hm3⟩
  obtain ⟨pA, pc, rfl, _, _⟩ := hown1.val
  obtain ⟨oA, oc, rfl, _, _⟩ := hown2.val
  have HO1 := Lib.hid hown1
  have HO2 := Lib.hid hown2
  have HB2 := Lib.hid (HB1.out.mod (hm2.trans hm3) (by simp))
  have HM2 := Lib.hid (HM1.out.trans (hm2.trans hm3))
  clear hown1 hown2 hm2 hm3 HD1 HB1 HM1
  simp only [List.length_nil] at HO1 HO2 ⊢
  go_wp2_with ((with_reducible refine wpList_store_node (au := 2) (cl := 1) (pv := .slice pA 0 pc) (ov := .slice oA 0 oc) _ _ rfl ?hgd ?hx ?hy (Blk.new _ _ _) ?hold ?hp ?hv ?_); (case hgd => exact rfl); (case hx => exact rfl); (case hy => exact rfl); (case hold => exact rfl); (case hp => exact rfl); (case hv => exact rfl); intro w3 hb3 hm3; have hm4 : Mod [] w2 w3 := ((Mod.refl [] w2).alloc _).then hm3 (by simp); have HN3 := Lib.hid hb3; have HM3 := Lib.hid (HM2.out.trans hm4); have HB3 := Lib.hid (HB2.out.mod hm4 (by simp)); have HP3 := Lib.hid (HO1.out.mod hm4 (by simp)); have HO3 := Lib.hid (HO2.out.mod hm4 (by simp)); clear hb3 hm3 hm4)
  have HA3 : Hid (AW w w2.heap.size g1 (.slice A1 5 c1) (.slice pA 0 pc) (.slice oA 0 oc) w3) := Lib.hid ⟨HN3.out, HB3.out, HP3.out, HO3.out, HM3.out⟩
  obtain ⟨q, hq⟩ : ∃ q, w2.heap.size = q := ⟨_, rfl⟩
  rw [hq] at HA3
  rw [hq]
  clear HO1 HO2 HB2 HM2 HN3 HM3 HB3 HP3 HO3 hq
  have hm4 : Mod [] w3 (w3.alloc (.cells #[.int .u8 1, .int .u8 9] 5)) := (Mod.refl [] w3).alloc _
  have HD2 := Lib.hid (decode_any [1, 9] w3.heap.size _ _ (bs_of_blk (xs := [1, 9]) (Blk.new w3 5 #[.int .u8 1, .int .u8 9]) (by decide)))
  rw [dec_nine] at HD2
  refine HD2.out.mono ?_
  rintro e' w4 ⟨b, rfl, hbad, hm5, _⟩
  have HA4 := Lib.hid (HA3.out.mod (hm4.trans hm5))
  have HBD := Lib.hid hbad
  clear hbad hm4 hm5 HD2 HA3
  go_wp2_with ((with_reducible refine wpList_store_node (au := 0) (cl := 0) (pv := .slice none 0 0) (ov := .slice none 0 0) _ _ rfl ?hgd ?hx ?hy (Blk.new _ _ _) ?hold ?hp ?hv ?_); (case hgd => exact rfl); (case hx => exact rfl); (case hy => exact rfl); (case hold => exact rfl); (case hp => exact rfl); (case hv => exact rfl); intro w5 hb5 hm5; have hm6 : Mod [] w4 w5 := ((Mod.refl [] w4).alloc _).then hm5 (by simp); have HA5 := Lib.hid (HA4.out.mod hm6); have HBD5 := Lib.hid (Blk.mod HBD.out hm6 (by simp)); clear hb5 hm5 hm6)
  have HTO := Lib.hid (told_bad w5 b 50 1 HBD5.out (by decide))
  refine HTO.out.mono ?_
  rintro e' w6 ⟨rfl, hm6⟩
  have HA6 := Lib.hid (HA5.out.mod hm6)
  clear hm6 HA4 HA5 HBD HBD5 HTO
  unfold errV
  go_upto_region 5 with fail
  have hm7 : Mod [] w6 (w6.alloc (.cells #[.int .i64 50, .int .i64 1] 36)) := (Mod.refl [] w6).alloc _
  have HA7 := Lib.hid (HA6.out.mod hm7)
  have HE7 := Lib.hid (Blk.new w6 36 #[.int .i64 50, .int .i64 1])
  obtain ⟨w7, hw7⟩ : ∃ w7, w6.alloc (.cells #[.int .i64 50, .int .i64 1] 36) = w7 := ⟨_, rfl⟩
  obtain ⟨z, hz⟩ : ∃ z, w6.heap.size = z := ⟨_, rfl⟩
  rw [hw7] at HA7 HE7
  rw [hz] at HE7
  rw [hw7, hz]
  clear hw7 hz hm7 HA6
  have hcv := run_str HA7.out.2.1
  obtain ⟨d0, d1, d2, d3, HC⟩ := HA7.out.1.open_
  have e0 := HE7.out.cell 0
  have e1 := HE7.out.cell 1
  have HCK : Hid (Calls Try.prog 15 #[nodeV 2 1 (.slice pA 0 pc) (.slice oA 0 oc)] w7 fun e w' => e = .returned (.int .i64 0) ∧ Mod [] w7 w') := Lib.hid (by
    obtain ⟨gp, hgp, _⟩ := HA7.out.2.2.1.hs
    obtain ⟨go, hgo, _⟩ := HA7.out.2.2.2.1.os
    have h := nodeCheck_any ⟨2, 1, [], []⟩ gp go _ _ w7 ⟨hgp, hgo⟩
    rw [show checkNode ⟨2, 1, [], []⟩ = 0 by decide] at h
    exact h)
  go_wp2_with (first | ((with_reducible refine wpList_load_node _ rfl ?hgd HC.out ?hx ?_); (case hgd => exact rfl); (case hx => exact rfl)))
  refine HCK.out.mono ?_
  rintro e' w8 ⟨rfl, hm8⟩
  go_wp2_with fail
  go_ret
  exact ⟨rfl, HA7.out.2.2.2.2.trans hm8⟩
end Go.Proofs.Ytlpjeckhejbkkaa
