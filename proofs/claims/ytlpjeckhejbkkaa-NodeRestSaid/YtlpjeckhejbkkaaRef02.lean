import Derived.Test.YtlpjeckhejbkkaaFix
set_option linter.unusedVariables false
set_option linter.unusedSimpArgs false
set_option maxRecDepth 20000
set_option maxHeartbeats 400000
namespace Go.Proofs.Ytlpjeckhejbkkaa
open Go.RowKit

/-- bytes behind others: a slice of the caller's own, grown -/
def AppP (w : World) (v : Value) (zs : Bytes) (e : Ending) (w' : World) : Prop :=
  ∃ A n cap, e = .returned (.slice A n cap) ∧ OwnB w' (.slice A n cap) zs ∧ Mod (blks v) w w' ∧ Fresh w (blks v) (blks (.slice A n cap))
theorem refNumber_any (v : Value) (xs : Bytes) (x : Nat) (w : World) (hO : OwnB w v xs) (hx : x < 18446744073709551616) (hz : xs.length ≤ 190000000000000) :
    Calls Try.prog 54 #[v, .int .u64 (x : Int)] w (AppP w v (xs ++ putNum x)) := by
  obtain ⟨A0, cap0, rfl, _, _⟩ := hO.val
  have HO := Lib.hid hO; clear hO
  have HX := Lib.hid hx; clear hx
  go_enter Try.func54, Try.ntmps54
  go_wp2
  go_loopw [0, 1] (fun s0 s1 wr => ∃ (y : Nat) (zs : Bytes) (A : Option Addr) (n cap : Nat), s1 = .int .u64 (y : Int) ∧ s0 = .slice A n cap ∧ Hid (y < 18446744073709551616) ∧ Hid (OwnB wr (.slice A n cap) (xs ++ zs)) ∧ Hid (zs ++ putNum y = putNum x) ∧ Hid (Mod (blks (.slice A0 xs.length cap0)) w wr) ∧ Hid (Fresh w (blks (.slice A0 xs.length cap0)) (blks (.slice A n cap)))) (fun _ s _ => (intOf s).toNat)
  case atStart => exact ⟨x, [], A0, xs.length, cap0, rfl, rfl, HX, Lib.hid (by simpa using HO.out), Lib.hid (by simp), Lib.hid (Mod.refl _ _), Lib.hid (Fresh.refl _ _)⟩
  case round =>
    obtain ⟨y, zs, A, n, cap, rfl, rfl, HY, HB, HP, HM, HF⟩ := hrel
    have hlen : (xs ++ zs).length ≤ 195000000000000 := by
      have h1 := putNum_length10 x HX.out
      have h2 := congrArg List.length HP.out
      rw [List.length_append] at h2 ⊢
      omega
    have HL := Lib.hid hlen; clear hlen
    by_cases hy : 128 ≤ y
    · have hbits : ((y : Int) % 128 + 128) = ((UInt8.ofNat (y % 128 + 128)).toNat : Int) := by
        have : (UInt8.ofNat (y % 128 + 128)).toNat = y % 128 + 128 := by simp; omega
        rw [this]; omega
      have hw : IntKind.u64.wrap ((y : Int) / 128) = (y : Int) / 128 := by rw [IntKind.wrap_u64]; have := HY.out; omega
      have HS := Lib.hid (bs_one wr 5 hbits); clear hbits
      have ho1 : OwnB (wr.alloc (.cells #[.int .u8 ((y : Int) % 128 + 128)] 5)) (.slice A n cap) (xs ++ zs) := HB.out.mod ((Mod.refl [] wr).alloc _) (by simp)
      have HO0 := Lib.hid ho1; clear ho1
      go_wp2_with (at_builtin; refine wpList_append_bytes rfl _ _ rfl HO0.out rfl HS.out rfl ?_ ?hz; intro A1 n1 cap1 w1 hown1 hn1 hm1 HF1; have hm0 : Mod (blks (.slice A n cap)) wr w1 := ((Mod.refl _ wr).alloc _).trans hm1; have HO2 := Lib.hid hown1; have HM1 := Lib.hid hm0; clear hown1 hm1 hm0)
      case hz => have := HL.out; simp only [List.length_cons, List.length_nil]; omega
      go_roundw
      case rel =>
        refine ⟨y / 128, zs ++ [UInt8.ofNat (y % 128 + 128)], A1, n1, cap1, by go_num, rfl, Lib.hid (by have := HY.out; omega), Lib.hid (by simpa using HO2.out), Lib.hid ?_, Lib.hid (HM.out.fresh HF.out HM1.out), Lib.hid (HF.out.trans (fun b hb => (HF1.out b hb).imp id (by simp; omega)) HM.out.size)⟩
        rw [← HP.out, putNum_ge hy]
        simp
      case measure => simp [intOf]; omega
    · have hbits : (y : Int) = ((UInt8.ofNat y).toNat : Int) := by
        have : (UInt8.ofNat y).toNat = y := by simp; omega
        rw [this]
      have HS := Lib.hid (bs_one wr 5 hbits); clear hbits
      have ho1 : OwnB (wr.alloc (.cells #[.int .u8 (y : Int)] 5)) (.slice A n cap) (xs ++ zs) := HB.out.mod ((Mod.refl [] wr).alloc _) (by simp)
      have HO0 := Lib.hid ho1; clear ho1
      go_wp2_with (at_builtin; refine wpList_append_bytes rfl _ _ rfl HO0.out rfl HS.out rfl ?_ ?hz; intro A1 n1 cap1 w1 hown1 hn1 hm1 HF1; have hm0 : Mod (blks (.slice A n cap)) wr w1 := ((Mod.refl _ wr).alloc _).trans hm1; have HO2 := Lib.hid hown1; have HM1 := Lib.hid hm0; clear hown1 hm1 hm0)
      case hz => have := HL.out; simp only [List.length_cons, List.length_nil]; omega
      go_ret
      have e : xs ++ zs ++ [UInt8.ofNat y] = xs ++ putNum x := by rw [← HP.out, putNum_lt (by omega), List.append_assoc]
      refine ⟨A1, n1, cap1, rfl, by rw [← e]; exact HO2.out, HM.out.fresh HF.out HM1.out, HF.out.trans (fun b hb => (HF1.out b hb).imp id (by simp; omega)) HM.out.size⟩
theorem refZig_any (x : Int) (h0 : -9223372036854775808 ≤ x) (h1 : x ≤ 9223372036854775807) (w : World) : Calls Try.prog 72 #[.int .i64 x] w fun e w' => e = .returned (.int .u64 (zig x : Nat)) ∧ w = w' := by
  by_cases hx : 0 ≤ x
  · have hz : ((zig x : Nat) : Int) = 2 * x := by unfold zig; rw [if_pos hx]; omega
    have HZ := Lib.hid hz; clear hz
    go_enter Try.func72, Try.ntmps72
    go_wp2
    go_ret
    refine ⟨ret_int ?_, rfl⟩
    rw [HZ.out]
  · have hz : ((zig x : Nat) : Int) = 2 * (-(x + 1)) + 1 := by unfold zig; rw [if_neg hx]; omega
    have HZ := Lib.hid hz; clear hz
    go_enter Try.func72, Try.ntmps72
    go_wp2
    go_ret
    refine ⟨ret_int ?_, rfl⟩
    rw [HZ.out]
theorem refBytes_any (v : Value) (xs ys : Bytes) (g : Nat) (sv : Value) (w : World) (hO : OwnB w v xs) (hs : BS w g sv ys) (hg : 0 < ys.length → g ∉ blks v) (hz : xs.length + ys.length ≤ 180000000000000) :
    Calls Try.prog 70 #[v, sv] w (AppP w v (xs ++ (putNum ys.length ++ ys))) := by
  obtain ⟨A0, cap0, rfl, _, _⟩ := hO.val
  obtain ⟨B0, capb, rfl, _, _⟩ := hs.val
  have hnum := refNumber_any _ xs ys.length w hO (by omega) (by omega)
  have HN := Lib.hid hnum; clear hnum
  have HL : Hid ((putNum ys.length).length ≤ 10) := Lib.hid (putNum_length10 _ (by omega))
  have HS := Lib.hid hs; clear hs hO
  go_enter Try.func70, Try.ntmps70
  go_wp2_with fail
  refine HN.out.mono ?_
  rintro e' w1 ⟨A1, n1, cap1, rfl, ho1, hm1, hf1⟩
  have HS1 : Hid (BS w1 g _ ys) := Lib.hid (HS.out.mod hm1 hg)
  have HO1 := Lib.hid ho1
  have HM1 := Lib.hid hm1
  have HF1 := Lib.hid hf1
  clear ho1 hm1 hf1
  go_wp2_with (at_builtin; refine wpList_append_bytes rfl _ _ rfl HO1.out rfl HS1.out rfl ?_ ?hz; intro A2 n2 cap2 w2 hown2 hn2 hm2 HF2; have HO2 := Lib.hid hown2; have HM2 := Lib.hid hm2; clear hown2 hm2)
  case hz => have := HL.out; rw [List.length_append]; omega
  go_ret
  exact ⟨A2, n2, cap2, rfl, by rw [← List.append_assoc]; exact HO2.out, HM1.out.fresh HF1.out HM2.out, HF1.out.trans (fun b hb => (HF2.out b hb).imp id (by omega)) HM1.out.size⟩
theorem refHash_any (v : Value) (xs : Bytes) (h : GHash) (w : World) (hO : OwnB w v xs) (hz : xs.length ≤ 180000000000000) :
    Calls Try.prog 55 #[v, h.val] w (AppP w v (xs ++ h.l)) := by
  obtain ⟨A0, cap0, rfl, _, _⟩ := hO.val
  have HO := Lib.hid hO; clear hO
  have hl32 := h.h
  go_enter Try.func55, Try.ntmps55
  go_wp2_with ((with_reducible refine wpList_box (cs := h.cells) _ rfl ?hgd ?hx ?_); (case hgd => exact rfl); (case hx => exact rfl); intro q w1 hv1 hm1 hq1 hl1; have HV1 := Lib.hid hv1; have HM1 := Lib.hid hm1; clear hv1 hm1)
  have HO1 := Lib.hid (HO.out.mod HM1.out (by simp))
  have HQ1 : Hid (q ∉ blks (.slice A0 xs.length cap0)) := Lib.hid (fun hb => by have := HO.out.lt q hb; omega)
  go_loopw [0, 5] (fun s0 s5 wr => ∃ (i : Nat) (A : Option Addr) (n cap : Nat), s5 = .int .i64 (i : Int) ∧ i ≤ 32 ∧ s0 = .slice A n cap ∧ Hid (OwnB wr (.slice A n cap) (xs ++ h.l.take i)) ∧ Hid (Blk wr q 46 h.cells.toArray) ∧ Hid (q ∉ blks (.slice A n cap)) ∧ Hid (Mod (blks (.slice A0 xs.length cap0)) w wr) ∧ Hid (Fresh w (blks (.slice A0 xs.length cap0)) (blks (.slice A n cap)))) (fun _ s _ => 32 - (intOf s).toNat)
  case atStart => exact ⟨0, A0, xs.length, cap0, rfl, by omega, rfl, Lib.hid (by simpa using HO1.out), HV1, HQ1, Lib.hid (HM1.out.mono (by simp)), Lib.hid (Fresh.refl _ _)⟩
  case round =>
    obtain ⟨i, A, n, cap, rfl, hi, rfl, HB, HV, HQ, HM, HF⟩ := hrel
    by_cases hil : i < 32
    · have hc := HV.out.cell i
      have hcv : h.cells.toArray[i]? = some (.int .u8 (h.l[i].toNat : Int)) := by simp [GHash.cells, hl32, hil]
      rw [hcv] at hc
      clear hcv
      obtain ⟨cc, hcc⟩ : ∃ cc, (h.l[i].toNat : Int) = cc := ⟨_, rfl⟩
      rw [hcc] at hc
      have HS := Lib.hid (bs_one wr 5 hcc.symm)
      have ho1 : OwnB (wr.alloc (.cells #[.int .u8 cc] 5)) (.slice A n cap) (xs ++ h.l.take i) := HB.out.mod ((Mod.refl [] wr).alloc _) (by simp)
      have HO0 := Lib.hid ho1
      have HT : Hid (h.l.take (i + 1) = h.l.take i ++ [h.l[i]]) := Lib.hid (List.take_succ_eq_append_getElem (by omega))
      clear ho1 hcc
      go_wp2_with (at_builtin; refine wpList_append_bytes rfl _ _ rfl HO0.out rfl HS.out rfl ?_ ?hz; intro A1 n1 cap1 w2 hown1 hn1 hm1 HF1; have hm0 : Mod (blks (.slice A n cap)) wr w2 := ((Mod.refl _ wr).alloc _).trans hm1; have HO2 := Lib.hid hown1; have HM2 := Lib.hid hm0; clear hown1 hm1 hm0)
      case hz => simp only [List.length_append, List.length_take, List.length_cons, List.length_nil]; omega
      go_roundw
      case rel => exact ⟨i + 1, A1, n1, cap1, by go_num, by omega, rfl, Lib.hid (by rw [HT.out, ← List.append_assoc]; exact HO2.out), Lib.hid (HV.out.mod HM2.out HQ.out), Lib.hid (fun hb => by
        rcases HF1.out q hb with h1 | h1
        · exact HQ.out h1
        · have := HV.out.lt; simp at h1; omega), Lib.hid (HM.out.fresh HF.out HM2.out), Lib.hid (HF.out.trans (fun b hb => (HF1.out b hb).imp id (by simp; omega)) HM.out.size)⟩
      case measure => simp [intOf]; omega
    · have hie : i = 32 := by omega
      subst hie
      go_wp2
      go_ret
      have e : h.l.take 32 = h.l := List.take_of_length_le (by omega)
      exact ⟨A, n, cap, rfl, by have := HB.out; rwa [e] at this, HM.out, HF.out⟩
end Go.Proofs.Ytlpjeckhejbkkaa
