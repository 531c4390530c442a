import Derived.Test.YtdiplliemdogfaaShort
import Derived.Test.YtdiplliemdogfaaPuts
import Derived.Test.YtdiplliemdogfaaFix
set_option linter.unusedVariables false
set_option linter.unusedSimpArgs false
set_option maxRecDepth 20000
set_option maxHeartbeats 1600000
namespace Go.Proofs.Ytdiplliemdogfaa
open Go.RowKit

def OK (w : World) (p : Nat) (F : List Nat) (Z : Bytes) (wr : World) : Prop := OutB wr p F Z ∧ Mod [] w wr ∧ ∀ b ∈ F, w.heap.size ≤ b
theorem OK.step {w wr w' : World} {p : Nat} {F F' : List Nat} {Z Z' : Bytes} (h : OK w p F Z wr) (hO : OutB w' p F' Z') (hm : Mod F wr w') (hf : Fresh wr F F') : OK w p F' Z' w' :=
  ⟨hO, h.2.1.then hm (fun b hb => .inr (h.2.2 b hb)), fun b hb => (hf b hb).elim (h.2.2 b) (fun h1 => Nat.le_trans h.2.1.size h1)⟩
theorem BS.mod' {w w' : World} {g : Nat} {v : Value} {xs : Bytes} (h : BS w g v xs) (hm : Mod [] w w') : BS w' g v xs := RS.mod h hm (by simp)
theorem back_any (l : List GOp) (gl : Nat) (vl : Value) (xa xb : Bytes) (ga gb : Nat) (va vb : Value) (w : World) (hl : OS w gl vl l) (hn : ∀ o ∈ l, o.nums) (ha : BS w ga va xa) (hb : BS w gb vb xb) (hza : xa.length ≤ 1000000000) (hzb : xb.length ≤ 1000000000) :
    Calls Try.prog 9 #[vl, va, vb] w fun e w' => e = .returned (.bool true) ∧ Mod [] w w' := by
  obtain ⟨A, cap, rfl, hc1, hc2⟩ := hl.val
  obtain ⟨Aa, capa, rfl, hd1, hd2⟩ := ha.val
  obtain ⟨Ab, capb, rfl, he1, he2⟩ := hb.val
  unfold maxLen at hc2 hd2 he2
  have HL := Lib.hid hl; clear hl
  have HA := Lib.hid ha; clear ha
  have HB := Lib.hid hb; clear hb
  have HN := Lib.hid hn; clear hn
  have hgl : 0 < l.length → gl < w.heap.size := fun h0 => by obtain ⟨_, _, _, _, _, hl', _⟩ := HL.out.at_ h0; exact hl'
  have HGL := Lib.hid hgl; clear hgl
  go_enter Try.func9, Try.ntmps9
  go_wp2_with fail
  refine (newOut_any w).mono ?_
  rintro e' w1 ⟨rfl, hO1, hm1⟩
  have HK : Hid (OK w w.heap.size [w.heap.size] [] w1) := Lib.hid ⟨hO1, hm1, by simp⟩
  obtain ⟨p, hp⟩ : ∃ p, w.heap.size = p := ⟨_, rfl⟩
  obtain ⟨F1, hF1⟩ : ∃ F1, [w.heap.size] = F1 := ⟨_, rfl⟩
  rw [hF1] at HK
  have HKP : Hid (OK w p F1 [] w1) := Lib.hid (hp ▸ HK.out)
  rw [hp]
  clear hO1 hm1 HK hp hF1
  go_wp2_with fail
  refine (outRaw_any p _ [] xa ga _ w1 HKP.out.1 (HA.out.mod HKP.out.2.1 (by simp)) (by simp; omega)).mono ?_
  rintro e' w2 ⟨rfl, F2, hO2, hm2, hf2⟩
  rw [List.nil_append] at hO2
  have HK2 := Lib.hid (HKP.out.step hO2 hm2 hf2)
  clear hO2 hm2 hf2 HKP
  have HPUT := Lib.hid (put_any l gl _ p F2 xa w2 HK2.out.1 (HL.out.mod HK2.out.2.1 (by simp)) (fun h0 h1 => by have := HGL.out h0; have := HK2.out.2.2 _ h1; omega) HN.out (by omega))
  go_wp2_with fail
  refine HPUT.out.mono ?_
  rintro e' w3 ⟨rfl, F3, hO3, hm3, hf3⟩
  have HK3 := Lib.hid (HK2.out.step hO3 hm3 hf3)
  clear hO3 hm3 hf3 HK2 HPUT
  by_cases h0 : (checkOps l).1 = 0
  · have H0 := Lib.hid h0
    rw [if_pos h0] at HK3
    rw [h0]
    clear h0
    have hpl := putOps_length l H0.out HN.out
    obtain ⟨P, hP⟩ : ∃ P, putOps l = P := ⟨_, rfl⟩
    have HPP := Lib.hid hP
    rw [hP] at HK3 hpl
    clear hP
    have HLEN := Lib.hid (outLen_any p F3 (xa ++ P) w3 HK3.out.1)
    rw [List.length_append] at HLEN
    go_wp2_with fail
    refine HLEN.out.mono ?_
    rintro e' w3' ⟨rfl, rfl⟩
    clear HLEN
    go_wp2_with fail
    refine (outRaw_any p _ (xa ++ P) xb gb _ w3 HK3.out.1 (HB.out.mod HK3.out.2.1 (by simp)) (by simp; omega)).mono ?_
    rintro e' w4 ⟨rfl, F4, hO4, hm4, hf4⟩
    have HK4 := Lib.hid (HK3.out.step hO4 hm4 hf4)
    clear hO4 hm4 hf4 HK3
    obtain ⟨Z, hZ⟩ : ∃ Z, xa ++ P ++ xb = Z := ⟨_, rfl⟩
    have hzl : Z.length = xa.length + P.length + xb.length := by rw [← hZ, List.length_append, List.length_append]
    rw [hZ] at HK4
    have HDN := Lib.hid (outDone_any p F4 Z w4 HK4.out.1 (by omega))
    go_wp2_with fail
    refine HDN.out.mono ?_
    rintro e' w5 ⟨v5, rfl, hown5, hm5, hf5⟩
    obtain ⟨A5, c5, rfl, hx1, hx2⟩ := hown5.val
    unfold maxLen at hx2
    obtain ⟨g5, hbs5, _⟩ := hown5.bs
    have HB5 := Lib.hid hbs5
    have HM5 := Lib.hid (HK4.out.2.1.trans hm5)
    clear hown5 hm5 hf5 hbs5 HDN HK4
    have hzi : ((Z.length : Int)) = (xa.length : Int) + (P.length : Int) + (xb.length : Int) := by omega
    have hrt : rdOps Z xa.length = .ok l (xa.length + P.length) := by
      have h := (rp_ops H0.out HN.out).at_ (xs := Z) (A := xa) (C := xb) (by rw [← hZ, HPP.out]) rfl
      rw [HPP.out] at h
      exact h
    have hcut : (Z.drop xa.length).take P.length = P := by rw [← hZ, List.append_assoc, List.drop_left, List.take_left]
    have HCUT := Lib.hid hcut
    have HRT := Lib.hid hrt
    clear hrt hcut hZ
    have hni := newIn_any _ g5 Z w5 HB5.out (by omega)
    rw [hzl] at hni
    have HNI := Lib.hid hni
    clear hni
    have hrd : rdRaw Z 0 xa.length = .ok ((Z.drop 0).take xa.length) xa.length := by unfold rdRaw; rw [if_neg (by omega), Nat.zero_add]
    have HRD := Lib.hid hrd
    clear hrd
    go_wp2_with fail
    refine HNI.out.mono ?_
    rintro e' w6 ⟨p2, gi, rfl, hI6, hm6, hp2, _⟩
    have HRAW := Lib.hid (inRaw_any xa.length p2 gi Z w6 0 hI6 (by omega) (by omega))
    rw [HRD.out] at HRAW
    have hmw6 : w.heap.size ≤ w6.heap.size := (HM5.out.trans hm6).size
    have HM6 := Lib.hid (HM5.out.trans hm6)
    have HP2 : Hid (w.heap.size ≤ p2) := Lib.hid (by have := HM5.out.size; omega)
    have HB6 := Lib.hid (HB5.out.mod hm6 (by simp))
    have hB5l : 0 < Z.length → g5 < w5.heap.size := fun h0 => by obtain ⟨_, _, _, _, _, hl', _⟩ := HB5.out.at_ h0; exact hl'
    have HG5 : Hid (0 < Z.length → g5 ≠ p2) := Lib.hid (fun h0 => by have := hB5l h0; omega)
    clear hI6 hm6 hp2 HNI HRD HB5 HM5 hmw6 hB5l
    go_wp2_with fail
    refine HRAW.out.mono ?_
    rintro e' w7 ⟨v7, rfl, hI7, hm7, _, _⟩
    have HGET := Lib.hid (opGet_any p2 gi Z w7 xa.length hI7 (by omega) (by omega))
    rw [HRT.out] at HGET
    have HM7 : Hid (Mod [] w w7) := Lib.hid (HM6.out.then hm7 (by have := HP2.out; simp; omega))
    have HB7 := Lib.hid (HB6.out.mod hm7 (fun h0 => by have := HG5.out (by simpa using h0); simp; omega))
    clear hI7 hm7 HM6 HB6 HRAW HRT
    go_wp2_with fail
    refine HGET.out.mono ?_
    rintro e' w8 ⟨A8, n8, c8, rfl, ho8, hI8, hm8, hf8⟩
    obtain ⟨_, _, hx1', hy1, hy2⟩ := ho8.val
    injection hx1' with hxa hxb hxc
    subst hxa hxb hxc
    unfold maxLen at hy2
    have HO8 := Lib.hid ho8
    have HM8 : Hid (Mod [] w w8) := Lib.hid (HM7.out.then hm8 (by have := HP2.out; simp; omega))
    have HB8 := Lib.hid (HB7.out.mod hm8 (fun h0 => by have := HG5.out (by simpa using h0); simp; omega))
    have HLF := Lib.hid (left_any p2 gi Z w8 (xa.length + P.length) _ hI8 (by omega))
    rw [show Z.length - (xa.length + P.length) = xb.length by omega] at HLF
    have hI8' : InB w8 p2 gi Z ((xa.length : Int) + (P.length : Int)) .nilIface := by
      have h := hI8
      push_cast at h
      exact h
    have HAT := Lib.hid (at_any p2 gi Z w8 _ _ hI8')
    clear ho8 hI8 hI8' hm8 hf8 HM7 HB7 HGET HP2 HG5
    go_wp2_with fail
    refine HAT.out.mono ?_
    rintro e' w8' ⟨rfl, rfl⟩
    go_wp2_with fail
    refine HLF.out.mono ?_
    rintro e' w9 ⟨rfl, k9, hk9⟩
    have hm9 : Mod [] w8 w9 := hk9 ▸ (Mod.refl [] w8).drewN k9
    have HM9 := Lib.hid (HM8.out.trans hm9)
    have HO9 := Lib.hid (HO8.out.mod hm9 (by simp))
    have HB9 := Lib.hid (HB8.out.mod hm9 (by simp))
    clear hk9 hm9 HM8 HO8 HB8 HAT HLF
    go_wp2_with fail
    go_loopw [14] (fun s14 wr => ∃ i : Nat, s14 = .int .i64 (i : Int) ∧ i ≤ l.length ∧ Hid (Mod [] w9 wr)) (fun s _ => l.length - (intOf s).toNat)
    case atStart => exact ⟨0, rfl, by omega, Lib.hid (Mod.refl _ _)⟩
    case round =>
      obtain ⟨i, rfl, hi, HM⟩ := hrel
      by_cases hil : i < l.length
      · have HOA : Hid (OS wr gl (.slice A l.length cap) l) := Lib.hid (HL.out.mod (HM9.out.trans HM.out) (by simp))
        obtain ⟨gx, hox, _⟩ := (HO9.out.mod HM.out (by simp)).os
        have HOB : Hid (OS wr gx (.slice A8 l.length c8) l) := Lib.hid hox
        obtain ⟨o1, ca, hv1, _, _, _, hA⟩ := OS.item HOA.out (by omega)
        obtain ⟨o2, cb, hv2, _, _, _, hB⟩ := OS.item HOB.out (by omega)
        injection hv1 with hx1 hx2 hx3
        injection hv2 with hy1 hy2 hy3
        subst hx1 hx3 hy1 hy3
        have HA1 := Lib.hid (hA i hil)
        have HB1 := Lib.hid (hB i hil)
        clear hA hB hx2 hy2 hox
        have hw0 : Mod [] wr wr.drew := (Mod.refl _ wr).drew
        have hil' : (i : Int) < (l.length : Int) := by omega
        have hlA : ∀ W, Mod [] wr W → CellsAt W gl (o1 + i * 37) l[i].cells := fun W hW => CellsAt.mod HA1.out hW (by simp)
        have hlB : ∀ W, Mod [] wr W → CellsAt W gx (o2 + i * 37) l[i].cells := fun W hW => CellsAt.mod HB1.out hW (by simp)
        have HF : Hid (Mod [] wr wr.drew) := Lib.hid hw0
        have HS1 : Hid (∀ W, Calls Try.prog 15 #[.agg l[i].cells.toArray, .agg l[i].cells.toArray] W fun e' w' => e' = .returned (.bool true) ∧ Mod [] W w') := Lib.hid (fun W => by
          have h := same_any l[i] l[i] W
          rw [show (l[i] == l[i]) = true from by simp] at h
          exact h)
        have HS2 : Hid (∀ W, Calls Try.prog 16 #[.agg l[i].cells.toArray, .agg l[i].cells.toArray] W fun e' w' => e' = .returned (.bool true) ∧ Mod [] W w') := Lib.hid (fun W => by
          have h := refSame_any l[i] l[i] W
          rw [show (l[i] == l[i]) = true from by simp] at h
          exact h)
        go_wp2_with fail
        refine wp_regionE (Mod []) (by kernel_rfl) ?_
        simp only [List.size_toArray, List.length_cons, List.length_nil, Nat.zero_add, Nat.reduceAdd]
        refine wpAnyE_takeL (preMod _) 0 (v := ?_) rfl (by kernel_rfl) (by kernel_rfl) (by kernel_rfl) (fun _ _ _ h => h) (Or.inl ⟨by rfl, ?_⟩) ?_
        rotate_left; (intro W hW; (try dsimp only at hW); go_simp; try with_reducible rfl)
        (try simp only [Act.put, List.setIfInBounds_toArray, List.set_cons_zero, List.set_cons_succ])
        refine wpAnyE_takeL (preMod _) 1 (v := ?_) rfl (by kernel_rfl) (by kernel_rfl) (by kernel_rfl) (fun _ _ _ h => h) (Or.inl ⟨by rfl, ?_⟩) ?_
        rotate_left; (intro W hW; (try dsimp only at hW); go_simp; try with_reducible rfl)
        (try simp only [Act.put, List.setIfInBounds_toArray, List.set_cons_zero, List.set_cons_succ])
        refine wpAnyE_takeL (preMod _) 2 (v := ?_) rfl (by kernel_rfl) (by kernel_rfl) (by kernel_rfl) (fun _ _ _ h => h) (Or.inl ⟨by rfl, ?_⟩) ?_
        rotate_left; (intro W hW; (try dsimp only at hW); go_simp; try with_reducible rfl)
        (try simp only [Act.put, List.setIfInBounds_toArray, List.set_cons_zero, List.set_cons_succ])
        refine wpAnyE_takeL (preMod _) 3 (v := ?_) rfl (by kernel_rfl) (by kernel_rfl) (by kernel_rfl) (fun _ _ _ h => h) (Or.inl ⟨by rfl, ?_⟩) ?_
        rotate_left; (intro W hW; (try dsimp only at hW); refine (run_load_cells rtOp (.tmp 91) (by rfl) (by rfl) (GOp.cells_length _) (hlB W (HF.out.trans hW))).trans ?_; try with_reducible rfl)
        (try simp only [Act.put, List.setIfInBounds_toArray, List.set_cons_zero, List.set_cons_succ])
        refine wpAnyE_takeL (preMod _) 4 (v := ?_) rfl (by kernel_rfl) (by kernel_rfl) (by kernel_rfl) (fun _ _ _ h => h) (Or.inl ⟨by rfl, ?_⟩) ?_
        rotate_left; (intro W hW; (try dsimp only at hW); go_simp; try with_reducible rfl)
        (try simp only [Act.put, List.setIfInBounds_toArray, List.set_cons_zero, List.set_cons_succ])
        refine wpAnyE_takeL (preMod _) 5 (v := ?_) rfl (by kernel_rfl) (by kernel_rfl) (by kernel_rfl) (fun _ _ _ h => h) (Or.inl ⟨by rfl, ?_⟩) ?_
        rotate_left; (intro W hW; (try dsimp only at hW); go_simp; try with_reducible rfl)
        (try simp only [Act.put, List.setIfInBounds_toArray, List.set_cons_zero, List.set_cons_succ])
        refine wpAnyE_takeL (preMod _) 6 (v := ?_) rfl (by kernel_rfl) (by kernel_rfl) (by kernel_rfl) (fun _ _ _ h => h) (Or.inl ⟨by rfl, ?_⟩) ?_
        rotate_left; (intro W hW; (try dsimp only at hW); go_simp; try with_reducible rfl)
        (try simp only [Act.put, List.setIfInBounds_toArray, List.set_cons_zero, List.set_cons_succ])
        refine wpAnyE_takeL (preMod _) 7 (v := ?_) rfl (by kernel_rfl) (by kernel_rfl) (by kernel_rfl) (fun _ _ _ h => h) (Or.inl ⟨by rfl, ?_⟩) ?_
        rotate_left; (intro W hW; (try dsimp only at hW); refine (run_load_cells rtOp (.tmp 95) (by rfl) (by rfl) (GOp.cells_length _) (hlA W (HF.out.trans hW))).trans ?_; try with_reducible rfl)
        (try simp only [Act.put, List.setIfInBounds_toArray, List.set_cons_zero, List.set_cons_succ])
        refine wpAnyE_ready (rs := [8]) (by kernel_rfl) (by simp) ?_
        refine AllReadyE.consL rfl (fun K hK => ?_) AllReadyE.nil
        rw [if_pos (by rfl)]
        go_simp
        go_at_call 15
        refine (HS1.out _).mono ?_
        rintro e' w10 ⟨rfl, hm10⟩
        have hmE := hm10
        have HFnew := Lib.hid (HF.out.trans hm10); clear HF; have HF := HFnew; clear HFnew
        go_wp2_with fail
        refine hK.out _ _ (by first | exact hmE | exact Mod.refl _ _ | exact (Mod.refl _ _).alloc _) ?_
        clear hK
        (try simp only [Act.put, List.setIfInBounds_toArray, List.set_cons_zero, List.set_cons_succ])
        refine wpAnyE_takeL (preMod _) 9 (v := ?_) rfl (by kernel_rfl) (by kernel_rfl) (by kernel_rfl) (fun _ _ _ h => h) (Or.inl ⟨by rfl, ?_⟩) ?_
        rotate_left; (intro W hW; (try dsimp only at hW); go_simp; try with_reducible rfl)
        (try simp only [Act.put, List.setIfInBounds_toArray, List.set_cons_zero, List.set_cons_succ])
        refine wpAnyE_takeL (preMod _) 10 (v := ?_) rfl (by kernel_rfl) (by kernel_rfl) (by kernel_rfl) (fun _ _ _ h => h) (Or.inl ⟨by rfl, ?_⟩) ?_
        rotate_left; (intro W hW; (try dsimp only at hW); go_simp; try with_reducible rfl)
        (try simp only [Act.put, List.setIfInBounds_toArray, List.set_cons_zero, List.set_cons_succ])
        refine wpAnyE_takeL (preMod _) 11 (v := ?_) rfl (by kernel_rfl) (by kernel_rfl) (by kernel_rfl) (fun _ _ _ h => h) (Or.inl ⟨by rfl, ?_⟩) ?_
        rotate_left; (intro W hW; (try dsimp only at hW); go_simp; try with_reducible rfl)
        (try simp only [Act.put, List.setIfInBounds_toArray, List.set_cons_zero, List.set_cons_succ])
        refine wpAnyE_takeL (preMod _) 12 (v := ?_) rfl (by kernel_rfl) (by kernel_rfl) (by kernel_rfl) (fun _ _ _ h => h) (Or.inl ⟨by rfl, ?_⟩) ?_
        rotate_left; (intro W hW; (try dsimp only at hW); go_simp; try with_reducible rfl)
        (try simp only [Act.put, List.setIfInBounds_toArray, List.set_cons_zero, List.set_cons_succ])
        refine wpAnyE_takeL (preMod _) 13 (v := ?_) rfl (by kernel_rfl) (by kernel_rfl) (by kernel_rfl) (fun _ _ _ h => h) (Or.inl ⟨by rfl, ?_⟩) ?_
        rotate_left; (intro W hW; (try dsimp only at hW); go_simp; try with_reducible rfl)
        (try simp only [Act.put, List.setIfInBounds_toArray, List.set_cons_zero, List.set_cons_succ])
        refine wpAnyE_takeL (preMod _) 14 (v := ?_) rfl (by kernel_rfl) (by kernel_rfl) (by kernel_rfl) (fun _ _ _ h => h) (Or.inl ⟨by rfl, ?_⟩) ?_
        rotate_left; (intro W hW; (try dsimp only at hW); refine (run_load_cells rtOp (.tmp 102) (by rfl) (by rfl) (GOp.cells_length _) (hlB W (HF.out.trans hW))).trans ?_; try with_reducible rfl)
        (try simp only [Act.put, List.setIfInBounds_toArray, List.set_cons_zero, List.set_cons_succ])
        refine wpAnyE_takeL (preMod _) 15 (v := ?_) rfl (by kernel_rfl) (by kernel_rfl) (by kernel_rfl) (fun _ _ _ h => h) (Or.inl ⟨by rfl, ?_⟩) ?_
        rotate_left; (intro W hW; (try dsimp only at hW); go_simp; try with_reducible rfl)
        (try simp only [Act.put, List.setIfInBounds_toArray, List.set_cons_zero, List.set_cons_succ])
        refine wpAnyE_takeL (preMod _) 16 (v := ?_) rfl (by kernel_rfl) (by kernel_rfl) (by kernel_rfl) (fun _ _ _ h => h) (Or.inl ⟨by rfl, ?_⟩) ?_
        rotate_left; (intro W hW; (try dsimp only at hW); go_simp; try with_reducible rfl)
        (try simp only [Act.put, List.setIfInBounds_toArray, List.set_cons_zero, List.set_cons_succ])
        refine wpAnyE_takeL (preMod _) 17 (v := ?_) rfl (by kernel_rfl) (by kernel_rfl) (by kernel_rfl) (fun _ _ _ h => h) (Or.inl ⟨by rfl, ?_⟩) ?_
        rotate_left; (intro W hW; (try dsimp only at hW); go_simp; try with_reducible rfl)
        (try simp only [Act.put, List.setIfInBounds_toArray, List.set_cons_zero, List.set_cons_succ])
        refine wpAnyE_takeL (preMod _) 18 (v := ?_) rfl (by kernel_rfl) (by kernel_rfl) (by kernel_rfl) (fun _ _ _ h => h) (Or.inl ⟨by rfl, ?_⟩) ?_
        rotate_left; (intro W hW; (try dsimp only at hW); refine (run_load_cells rtOp (.tmp 106) (by rfl) (by rfl) (GOp.cells_length _) (hlA W (HF.out.trans hW))).trans ?_; try with_reducible rfl)
        (try simp only [Act.put, List.setIfInBounds_toArray, List.set_cons_zero, List.set_cons_succ])
        refine wpAnyE_ready (rs := [19]) (by kernel_rfl) (by simp) ?_
        refine AllReadyE.consL rfl (fun K hK => ?_) AllReadyE.nil
        rw [if_pos (by rfl)]
        go_simp
        go_at_call 16
        refine (HS2.out _).mono ?_
        rintro e' w11 ⟨rfl, hm11⟩
        have hmE := hm11
        have HFnew := Lib.hid (HF.out.trans hm11); clear HF; have HF := HFnew; clear HFnew
        go_wp2_with fail
        refine hK.out _ _ (by first | exact hmE | exact Mod.refl _ _ | exact (Mod.refl _ _).alloc _) ?_
        clear hK
        (try simp only [Act.put, List.setIfInBounds_toArray, List.set_cons_zero, List.set_cons_succ])
        refine wpAnyE_takeL (preMod _) 20 (v := ?_) rfl (by kernel_rfl) (by kernel_rfl) (by kernel_rfl) (fun _ _ _ h => h) (Or.inl ⟨by rfl, ?_⟩) ?_
        rotate_left; (intro W hW; (try dsimp only at hW); go_simp; try with_reducible rfl)
        (try simp only [Act.put, List.setIfInBounds_toArray, List.set_cons_zero, List.set_cons_succ])
        refine wpAnyE_takeL (preMod _) 21 (v := ?_) rfl (by kernel_rfl) (by kernel_rfl) (by kernel_rfl) (fun _ _ _ h => h) (Or.inl ⟨by rfl, ?_⟩) ?_
        rotate_left; (intro W hW; (try dsimp only at hW); go_simp; try with_reducible rfl)
        (try simp only [Act.put, List.setIfInBounds_toArray, List.set_cons_zero, List.set_cons_succ])
        refine wpAnyE_done (by kernel_rfl) ?_ _
        clear hlA hlB
        go_wp2_with fail
        go_roundw
        case rel => exact ⟨i + 1, by go_num, by omega, Lib.hid (HM.out.trans HF.out)⟩
        case measure => simp [intOf]; omega
      · have hie : i = l.length := by omega
        have hp1 : 0 < P.length := by
          rw [← HPP.out]
          unfold putOps
          rw [List.length_append]
          have : 0 < (putNum l.length).length := by rw [putNum]; split <;> simp
          omega
        have hne : ¬ (c5 = xa.length) := by omega
        have hbp : BS wr g5 (.slice (Option.map (fun x => x.add xa.length) A5) P.length (c5 - xa.length)) P := by
          have h := BS.part (show BS w9 g5 (.slice A5 Z.length c5) Z from HB9.out) (lo := xa.length) (n := P.length) (c' := c5 - xa.length) (A' := Option.map (fun x => x.add xa.length) A5) (by omega) (by omega) (by unfold maxLen; omega) (fun _ => rfl)
          rw [HCUT.out] at h
          exact BS.mod' h HM.out
        have HSC := Lib.hid (short_any P g5 _ wr hbp (by omega) (fun n hn' => by
          have h := short_law H0.out HN.out (n := n) (by rw [HPP.out]; exact hn')
          rw [HPP.out] at h
          exact h))
        clear hbp hp1
        have h1 : ¬ ((xa.length : Int) + (P.length : Int) < (xa.length : Int)) := by omega
        have h2 : (xa.length : Int) + (P.length : Int) ≤ (c5 : Int) := by omega
        go_wp2_with fail
        refine HSC.out.mono ?_
        rintro e' w20 ⟨rfl, hm20⟩
        go_wp2_with fail
        refine (fixed_any _).mono ?_
        rintro e' w21 ⟨rfl, hm21⟩
        go_wp2_with fail
        go_ret
        exact ⟨rfl, ((HM9.out.trans HM.out).trans hm20).trans hm21⟩
  · rw [if_neg h0] at HK3
    have hx0 : ¬ (((checkOps l).1 : Int) = 0) := by omega
    have HLEN := Lib.hid (outLen_any p F3 xa w3 HK3.out.1)
    go_wp2_with fail
    refine HLEN.out.mono ?_
    rintro e' w3' ⟨rfl, rfl⟩
    go_wp2_with fail
    refine (fixed_any _).mono ?_
    rintro e' w21 ⟨rfl, hm21⟩
    go_wp2_with fail
    go_ret
    exact ⟨rfl, HK3.out.2.1.trans hm21⟩
end Go.Proofs.Ytdiplliemdogfaa
