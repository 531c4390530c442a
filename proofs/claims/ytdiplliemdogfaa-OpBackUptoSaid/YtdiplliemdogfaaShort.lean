import Derived.Test.YtdiplliemdogfaaShortLaw
import Derived.Test.YtdiplliemdogfaaPlaced
set_option linter.unusedVariables false
set_option linter.unusedSimpArgs false
set_option maxRecDepth 20000
set_option maxHeartbeats 1600000
namespace Go.Proofs.Ytdiplliemdogfaa
open Go.RowKit

theorem short_any (bs : Bytes) (g : Nat) (sv : Value) (w : World) (hs : BS w g sv bs) (hz : bs.length ≤ 400000000) (hlaw : ∀ n, n < bs.length → ∃ a, a ≤ n ∧ rdOps (bs.take n) 0 = .bad 20 a) :
    Calls Try.prog 35 #[sv] w fun e w' => e = .returned (.bool true) ∧ Mod [] w w' := by
  obtain ⟨A, cap, rfl, hc1, hc2⟩ := hs.val
  have HS := Lib.hid hs; clear hs
  have HLAW := Lib.hid hlaw; clear hlaw
  have HZ := Lib.hid hz
  unfold maxLen at hc2
  go_enter Try.func35, Try.ntmps35
  go_wp2_with fail
  go_loopw [3] (fun s3 wr => ∃ k : Nat, s3 = .int .i64 (k : Int) ∧ k ≤ 12 ∧ Hid (Mod [] w wr)) (fun s _ => 12 - (intOf s).toNat)
  case atStart => exact ⟨0, rfl, by omega, Lib.hid (Mod.refl _ _)⟩
  case round =>
    obtain ⟨k, rfl, hk, HM⟩ := hrel
    by_cases hk12 : k < 12
    · by_cases hkl : k < bs.length
      · have hq : IntKind.i64.wrap ((bs.length : Int).tdiv 12) = ((bs.length / 12 : Nat) : Int) := by
          rw [IntWalk.i64_quo _ _ (by omega)]; omega
        have hm : k * (1 + bs.length / 12) ≤ 12 * (1 + bs.length / 12) := Nat.mul_le_mul_right _ (by omega)
        have hm2 : bs.length / 12 ≤ bs.length := Nat.div_le_self _ _
        obtain ⟨M, hM⟩ : ∃ M : Nat, k * (1 + bs.length / 12) = M := ⟨_, rfl⟩
        have h1 : wrap64 ((k : Int) * (1 + (bs.length : Int) / 12)) = (M : Int) := by
          rw [show ((k : Int) * (1 + (bs.length : Int) / 12)) = (M : Int) by rw [← hM]; push_cast; rfl, IntWalk.wrap64_in _ (by omega)]
        have HT : Hid (wrap64 ((bs.length : Int) - 1 - wrap64 ((k : Int) * (1 + (bs.length : Int) / 12))) = (bs.length : Int) - 1 - (M : Int)) := Lib.hid (by rw [h1, IntWalk.wrap64_in _ (by omega)])
        clear hM h1 hm
        go_upto_region 5 with fail
        rw [HT.out]
        clear HT hq
        by_cases hneg : (bs.length : Int) - 1 - (M : Int) < 0
        · go_wp2_with fail
          go_ret
          exact ⟨rfl, HM.out⟩
        · obtain ⟨n, hn⟩ : ∃ n : Nat, (bs.length : Int) - 1 - (M : Int) = (n : Int) := ⟨bs.length - 1 - M, by omega⟩
          rw [hn] at hneg ⊢
          have hnl : n < bs.length := by omega
          clear hn hneg hm2
          have hnc : (n : Int) ≤ (cap : Int) := by omega
          have HB := Lib.hid (BS.take HS.out (n := n) (by omega))
          have htl : (bs.take n).length = n := by simp; omega
          have hbs : BS wr g (.slice A (bs.take n).length cap) (bs.take n) := by rw [htl]; exact HB.out.mod HM.out (by simp)
          obtain ⟨a, ha, hra⟩ := HLAW.out n hnl
          have HNI := Lib.hid (newIn_any _ g (bs.take n) wr hbs (by rw [htl]; omega))
          rw [htl] at HNI
          have HRA := Lib.hid hra
          clear hbs hra HB
          go_wp2_with fail
          refine HNI.out.mono ?_
          rintro e' w1 ⟨p, gi, rfl, hI, hm, hp, hgi⟩
          have HGE : Hid (Calls Try.prog 24 #[ptr p] w1 (GetP w1 p gi (bs.take n) (.bad 20 a))) := Lib.hid (by
            have h := opGet_any p gi (bs.take n) w1 0 hI (by omega) (by rw [htl]; omega)
            rw [HRA.out] at h
            exact h)
          have HM1 := Lib.hid (HM.out.trans hm)
          have HPW := Lib.hid hp
          clear hI hm hp hgi HNI
          go_wp2_with fail
          refine HGE.out.mono ?_
          rintro e' w2 ⟨b, rfl, hb, hm2, hbl⟩
          have HB2 := Lib.hid hb
          have HM2 : Hid (Mod [] w w2) := Lib.hid (HM1.out.then hm2 (by have := HPW.out; have := HM.out.size; simp; omega))
          clear hb hm2 hbl HGE HM1 HPW
          go_wp2_with fail
          refine (placed_bad w2 b 20 a HB2.out (by omega)).mono ?_
          rintro e' w3 ⟨rfl, hm3⟩
          have HM3 := Lib.hid (HM2.out.trans hm3)
          clear hm3 HM2 HB2 HM
          unfold errV
          have hale : ¬ ((n : Int) < (a : Int)) := by omega
          have ha0 : ¬ ((a : Int) < 0) := by omega
          go_wp2_with fail
          go_roundw
          case rel => exact ⟨k + 1, by go_num, by omega, Lib.hid (HM3.out.trans ((Mod.refl [] w3).alloc _))⟩
          case measure => simp [intOf]; omega
      · go_wp2_with fail
        go_ret
        exact ⟨rfl, HM.out⟩
    · go_wp2_with fail
      go_ret
      exact ⟨rfl, HM.out⟩
end Go.Proofs.Ytdiplliemdogfaa
