import Derived.Test.YtlpjeckhejbkkaaOut
set_option linter.unusedVariables false
set_option linter.unusedSimpArgs false
set_option maxRecDepth 20000
set_option maxHeartbeats 400000
namespace Go.Proofs.Ytlpjeckhejbkkaa
open Go.RowKit

theorem putNum_lt {x : Nat} (h : x < 128) : putNum x = [UInt8.ofNat x] := by rw [putNum, if_pos h]
theorem putNum_ge {x : Nat} (h : 128 ≤ x) : putNum x = UInt8.ofNat (x % 128 + 128) :: putNum (x / 128) := by rw [putNum, if_neg (by omega)]
theorem putNum_length (x : Nat) : ∀ k, x < 128 ^ (k + 1) → (putNum x).length ≤ k + 1 := by
  intro k
  induction k generalizing x with
  | zero => intro h; rw [putNum_lt (by omega)]; simp
  | succ k ih =>
    intro h
    by_cases hx : x < 128
    · rw [putNum_lt hx]; simp
    · rw [putNum_ge (by omega), List.length_cons]
      have := ih (x / 128) (by rw [Nat.div_lt_iff_lt_mul (by omega)]; rw [Nat.pow_succ] at h; omega)
      omega
theorem putNum_length10 (x : Nat) (h : x < 18446744073709551616) : (putNum x).length ≤ 10 := putNum_length x 9 (by omega)
theorem outNumber_any (p : Nat) (F : List Nat) (xs : Bytes) (x : Nat) (w : World) (hO : OutB w p F xs) (hx : x < 18446744073709551616) (hz : xs.length ≤ 190000000000000) :
    Calls Try.prog 41 #[ptr p, .int .u64 (x : Int)] w (OutP w p F (xs ++ putNum x)) := by
  have HO := Lib.hid hO; clear hO
  have HX := Lib.hid hx; clear hx
  go_enter Try.func41, Try.ntmps41
  go_wp2
  go_loopw [1] (fun s wr => ∃ (y : Nat) (F' : List Nat) (zs : Bytes), s = .int .u64 (y : Int) ∧ Hid (y < 18446744073709551616) ∧ Hid (OutB wr p F' (xs ++ zs)) ∧ Hid (zs ++ putNum y = putNum x) ∧ Hid (Mod F w wr) ∧ Hid (Fresh w F F')) (fun s _ => (intOf s).toNat)
  case atStart => exact ⟨x, F, [], rfl, HX, Lib.hid (by simpa using HO.out), Lib.hid (by simp), Lib.hid (Mod.refl _ _), Lib.hid (Fresh.refl _ _)⟩
  case round =>
    obtain ⟨y, F', zs, rfl, HY, HB, HP, HM, HF⟩ := hrel
    have hlen : (xs ++ zs).length ≤ 195000000000000 := by
      have h1 := putNum_length10 x HX.out
      have h2 := congrArg List.length HP.out
      rw [List.length_append] at h2 ⊢
      omega
    have HL := Lib.hid hlen; clear hlen
    obtain ⟨A, n, cap, h0, f0, hl, HN, HO1⟩ := HB.out.open_
    by_cases hy : 128 ≤ y
    · have hbits : bits .or .u8 ((y : Int) % 256) 128 = ((UInt8.ofNat (y % 128 + 128)).toNat : Int) := by
        have e : (y : Int) % 256 = ((y % 256 : Nat) : Int) := by omega
        rw [e, or_u8_128 _ (by omega)]
        have : (UInt8.ofNat (y % 128 + 128)).toNat = y % 128 + 128 := by simp; omega
        rw [this]; omega
      have HS := Lib.hid (bs_one wr 5 hbits); clear hbits
      have ho1 : OwnB (wr.alloc (.cells #[.int .u8 (bits .or .u8 ((y : Int) % 256) 128)] 5)) (.slice A n cap) (xs ++ zs) := HO1.out.2.1.mod ((Mod.refl [] wr).alloc _) (by simp)
      have HO0 := Lib.hid ho1; clear ho1
      go_wp2_with (at_builtin; refine wpList_append_bytes rfl _ _ rfl HO0.out rfl HS.out rfl ?_ ?hz; intro A1 n1 cap1 w1 hown1 hn1 hm1 HF1; have hm0 : Mod (blks (.slice A n cap)) wr w1 := ((Mod.refl _ wr).alloc _).trans hm1; have hb1 := HO1.out.1.mod hm0 (own_ne HO1.out.2.1 HO1.out.1 (by decide)); have c1 : w1.cell? ⟨p, 0, none⟩ = some (.slice A n cap) := hb1.cell 0; have f1 := hb1.frozen 0; have HO2 := Lib.hid hown1; have HM1 := Lib.hid hm0; clear hown1 hb1 hm1 hm0)
      case hz => have := HL.out; simp only [List.length_cons, List.length_nil]; omega
      go_roundw
      case rel =>
        have hs := out_step HO1.out.1 HO1.out.2.1 HO1.out.2.2.1 HO1.out.2.2.2 HO2.out HM1.out (fun b hb => (HF1.out b hb).imp id (by simp; omega))
        refine ⟨y / 128, _, zs ++ [UInt8.ofNat (y % 128 + 128)], by go_num, Lib.hid (by have := HY.out; omega), Lib.hid (by simpa using hs.1), Lib.hid ?_, Lib.hid (HM.out.fresh HF.out hs.2.1), Lib.hid (HF.out.trans hs.2.2 HM.out.size)⟩
        rw [← HP.out, putNum_ge hy]
        simp
      case measure => simp [intOf]; omega
    · have hbits : (y : Int) = ((UInt8.ofNat y).toNat : Int) := by
        have : (UInt8.ofNat y).toNat = y := by simp; omega
        rw [this]
      have HS := Lib.hid (bs_one wr 5 hbits); clear hbits
      have ho1 : OwnB (wr.alloc (.cells #[.int .u8 (y : Int)] 5)) (.slice A n cap) (xs ++ zs) := HO1.out.2.1.mod ((Mod.refl [] wr).alloc _) (by simp)
      have HO0 := Lib.hid ho1; clear ho1
      go_wp2_with (at_builtin; refine wpList_append_bytes rfl _ _ rfl HO0.out rfl HS.out rfl ?_ ?hz; intro A1 n1 cap1 w1 hown1 hn1 hm1 HF1; have hm0 : Mod (blks (.slice A n cap)) wr w1 := ((Mod.refl _ wr).alloc _).trans hm1; have hb1 := HO1.out.1.mod hm0 (own_ne HO1.out.2.1 HO1.out.1 (by decide)); have c1 : w1.cell? ⟨p, 0, none⟩ = some (.slice A n cap) := hb1.cell 0; have f1 := hb1.frozen 0; have HO2 := Lib.hid hown1; have HM1 := Lib.hid hm0; clear hown1 hb1 hm1 hm0)
      case hz => have := HL.out; simp only [List.length_cons, List.length_nil]; omega
      go_end0
      have hs := out_step HO1.out.1 HO1.out.2.1 HO1.out.2.2.1 HO1.out.2.2.2 HO2.out HM1.out (fun b hb => (HF1.out b hb).imp id (by simp; omega))
      refine ⟨rfl, _, ?_, HM.out.fresh HF.out hs.2.1, HF.out.trans hs.2.2 HM.out.size⟩
      rw [← HP.out, putNum_lt (by omega), ← List.append_assoc]
      exact hs.1
end Go.Proofs.Ytlpjeckhejbkkaa
