import Derived.Test.YtdiplliemdogfaaOnceLaw
import Derived.Test.YtdiplliemdogfaaPuts
set_option linter.unusedVariables false
set_option linter.unusedSimpArgs false
set_option maxRecDepth 20000
set_option maxHeartbeats 1600000
namespace Go.Proofs.Ytdiplliemdogfaa
open Go.RowKit

theorem once_any (xs : Bytes) (g : Nat) (sv : Value) (w : World) (hs : BS w g sv xs) (hz : xs.length ≤ 140737488355328) :
    Calls Try.prog 6 #[sv] w fun e w' => e = .returned (.bool true) ∧ Mod [] w w' := by
  obtain ⟨A, cap, rfl, hc1, hc2⟩ := hs.val
  have HS := Lib.hid hs; clear hs
  have HZ := Lib.hid hz; clear hz
  go_enter Try.func6, Try.ntmps6
  go_wp2_with fail
  refine (newIn_any _ g xs w HS.out HZ.out).mono ?_
  rintro e' w1 ⟨p, gi, rfl, hI, hm, hp, hgi⟩
  have HI := Lib.hid hI
  have HM := Lib.hid hm
  clear hI hm
  go_wp2_with fail
  refine (newOut_any w1).mono ?_
  rintro e' w2 ⟨rfl, hO, hm2⟩
  have HO := Lib.hid hO
  have HI2 := Lib.hid (HI.out.mod hm2 (by simp) (by simp))
  have HM2 := Lib.hid (HM.out.trans hm2)
  have hpo : p < w1.heap.size := HI.out.lt
  have hmz := HM.out.size
  have HGI : Hid (0 < xs.length → gi < w1.heap.size) := Lib.hid (fun h0 => by obtain ⟨v, _, hr, _⟩ := HI.out; obtain ⟨_, _, _, _, _, hl', _⟩ := hr.at_ h0; exact hl')
  clear hO hm2 HI HM
  obtain ⟨q, hq⟩ : ∃ q, w1.heap.size = q := ⟨_, rfl⟩
  rw [hq] at HO hpo hmz HGI
  rw [hq]
  clear hq
  go_wp2_with fail
  have hget := opGet_any p gi xs w2 0 HI2.out (by omega) HZ.out
  have HG := Lib.hid hget; clear hget
  have HOK := Lib.hid (fun l pos (h : rdOps xs 0 = .ok l pos) => rdOps_cut h (by omega))
  generalize rdOps xs 0 = r at HG HOK
  refine HG.out.mono ?_
  cases r with
  | bad why at_ =>
    rintro e' w3 ⟨b, rfl, hb, hm3, hbl⟩
    have HM3 : Hid (Mod [] w w3) := Lib.hid (HM2.out.then hm3 (by simp; omega))
    clear hb hm3 hbl HG HOK
    unfold badV
    go_wp2_with fail
    refine (fixed_any _).mono ?_
    rintro e' w4 ⟨rfl, hm4⟩
    have HM4 := Lib.hid (HM3.out.trans hm4)
    clear hm4
    go_wp2
    go_ret
    exact ⟨rfl, HM4.out⟩
  | ok l pos =>
    rintro e' w3 ⟨Al, nl, capl, rfl, hol, hI3, hm3, hfl⟩
    obtain ⟨hcut, _, hpos, hchk, hnum⟩ := HOK.out l pos rfl
    have HCUT : Hid (putOps l = xs.take pos) := Lib.hid (by rw [← hcut]; simp [cut])
    have HNUM := Lib.hid hnum
    have HCHK := Lib.hid hchk
    obtain ⟨gl, hos, hgl⟩ := hol.os
    obtain ⟨_, capl', he, _, _⟩ := hol.val
    injection he with h1 h2 h3
    subst h1 h2 h3
    have HOS := Lib.hid hos
    have HI3 := Lib.hid hI3
    have HGL : Hid (0 < l.length → w2.heap.size ≤ gl) := Lib.hid (fun h0 => hfl gl (hgl h0))
    have HM3 : Hid (Mod [] w w3) := Lib.hid (HM2.out.then hm3 (by simp; omega))
    have HO3 : Hid (OutB w3 q [q] []) := Lib.hid (HO.out.mod hm3 (by simp; omega))
    have hqw : q < w2.heap.size := HO.out.lt
    clear hcut hchk hnum hol hos hgl hI3 hm3 hfl HG HOK HO HI2 HM2
    go_wp2_with fail
    refine (check_any l gl _ w3 HOS.out).mono ?_
    rintro e' w4 ⟨rfl, hm4⟩
    rw [HCHK.out]
    have HOS4 : Hid (OS w4 gl _ l) := Lib.hid (HOS.out.mod hm4 (by simp))
    have HI4 := Lib.hid (HI3.out.mod hm4 (by simp) (by simp))
    have HO4 := Lib.hid (HO3.out.mod hm4 (by simp))
    have HM4 := Lib.hid (HM3.out.trans hm4)
    clear hm4 HOS HI3 HO3 HM3
    go_wp2_with fail
    have hput := put_any l gl _ q [q] [] w4 HO4.out HOS4.out (fun h0 => by have := HGL.out h0; simp; omega) HNUM.out (by simp)
    unfold PutP at hput
    rw [HCHK.out, if_pos rfl, HCUT.out] at hput
    refine hput.mono ?_
    rintro e' w5 ⟨rfl, F5, hO5, hm5, hf5⟩
    have HI5 : Hid (InB w5 p gi xs (pos : Int) .nilIface) := Lib.hid (HI4.out.mod hm5 (by simp; omega) (fun h0 => by have := HGI.out h0; simp; omega))
    have HO5 := Lib.hid hO5
    have HM5 : Hid (Mod [] w w5) := Lib.hid (HM4.out.then hm5 (by simp; omega))
    clear hput hO5 hm5 hf5 HO4 HOS4 HI4 HM4
    go_wp2_with fail
    refine (at_any p gi xs w5 _ _ HI5.out).mono ?_
    rintro e' w6 ⟨rfl, rfl⟩
    have HCB := Lib.hid (conv_all (BS.take (HS.out.mod HM5.out (by simp)) hpos) [] (by simp))
    have HOM : Hid (∀ W, Mod [] w5 W → OutB W q F5 (xs.take pos)) := Lib.hid (fun W hm => HO5.out.mod hm (by simp))
    have hm56 := mod_refl_T [] w5
    have hpc : (pos : Int) ≤ (cap : Int) := by omega
    have hpl : (pos : Int) ≤ (xs.length : Int) := by omega
    have hp0 : (0 : Int) ≤ (pos : Int) := by omega
    go_wp2_with fail
    refine wp_regionE (Mod []) (by kernel_rfl) ?_
    simp only [List.size_toArray, List.length_cons, List.length_nil, Nat.zero_add, Nat.reduceAdd]
    refine wpAnyE_takeL (preMod []) 0 (v := ?_) rfl (by kernel_rfl) (by kernel_rfl) (by kernel_rfl) (fun _ _ _ h => h) (Or.inl ⟨by rfl, ?_⟩) ?_
    rotate_left; (intro W hW; (try dsimp only at hW); go_simp; try with_reducible rfl)
    (try simp only [Act.put, List.setIfInBounds_toArray, List.set_cons_zero, List.set_cons_succ])
    refine wpAnyE_takeL (preMod []) 1 (v := ?_) rfl (by kernel_rfl) (by kernel_rfl) (by kernel_rfl) (fun _ _ _ h => h) (Or.inl ⟨by rfl, ?_⟩) ?_
    rotate_left; (intro W hW; (try dsimp only at hW); go_simp; try with_reducible rfl)
    (try simp only [Act.put, List.setIfInBounds_toArray, List.set_cons_zero, List.set_cons_succ])
    refine wpAnyE_takeL (preMod []) 2 (v := ?_) rfl (by kernel_rfl) (by kernel_rfl) (by kernel_rfl) (fun _ _ _ h => h) (Or.inl ⟨by rfl, ?_⟩) ?_
    rotate_left; (intro W hW; (try dsimp only at hW); go_simp; try with_reducible rfl)
    (try simp only [Act.put, List.setIfInBounds_toArray, List.set_cons_zero, List.set_cons_succ])
    refine wpAnyE_takeL (preMod []) 3 (v := ?_) rfl (by kernel_rfl) (by kernel_rfl) (by kernel_rfl) (fun _ _ _ h => h) (Or.inl ⟨by rfl, ?_⟩) ?_
    rotate_left; (intro W hW; (try dsimp only at hW); go_simp; try with_reducible rfl)
    (try simp only [Act.put, List.setIfInBounds_toArray, List.set_cons_zero, List.set_cons_succ])
    refine wpAnyE_takeL (preMod []) 4 (v := ?_) rfl (by kernel_rfl) (by kernel_rfl) (by kernel_rfl) (fun _ _ _ h => h) (Or.inl ⟨by rfl, ?_⟩) ?_
    rotate_left; (intro W hW; (try dsimp only at hW); go_simp; try with_reducible rfl)
    (try simp only [Act.put, List.setIfInBounds_toArray, List.set_cons_zero, List.set_cons_succ])
    refine wpAnyE_takeL (preMod []) 5 (v := ?_) rfl (by kernel_rfl) (by kernel_rfl) (by kernel_rfl) (fun _ _ _ h => h) (Or.inl ⟨by rfl, ?_⟩) ?_
    rotate_left; (intro W hW; (try dsimp only at hW); go_simp; try with_reducible rfl)
    (try simp only [Act.put, List.setIfInBounds_toArray, List.set_cons_zero, List.set_cons_succ])
    refine wpAnyE_takeL (preMod []) 6 (v := ?_) rfl (by kernel_rfl) (by kernel_rfl) (by kernel_rfl) (fun _ _ _ h => h) (Or.inl ⟨by rfl, ?_⟩) ?_
    rotate_left; (intro W hW; (try dsimp only at hW); go_simp; try with_reducible rfl)
    (try simp only [Act.put, List.setIfInBounds_toArray, List.set_cons_zero, List.set_cons_succ])
    refine wpAnyE_takeL (preMod []) 7 (v := ?_) rfl (by kernel_rfl) (by kernel_rfl) (by kernel_rfl) (fun _ _ _ h => h) (Or.inl ⟨by rfl, ?_⟩) ?_
    rotate_left; (intro W hW; (try dsimp only at hW); go_simp; try with_reducible rfl)
    (try simp only [Act.put, List.setIfInBounds_toArray, List.set_cons_zero, List.set_cons_succ])
    refine wpAnyE_takeL (preMod []) 8 (v := ?_) rfl (by kernel_rfl) (by kernel_rfl) (by kernel_rfl) (fun _ _ _ h => h) (Or.inl ⟨by rfl, ?_⟩) ?_
    rotate_left; (intro W hW; (try dsimp only at hW); go_simp; try with_reducible rfl)
    (try simp only [Act.put, List.setIfInBounds_toArray, List.set_cons_zero, List.set_cons_succ])
    refine wpAnyE_takeL (preMod []) 9 (v := ?_) rfl (by kernel_rfl) (by kernel_rfl) (by kernel_rfl) (fun _ _ _ h => h) (Or.inl ⟨by rfl, ?_⟩) ?_
    rotate_left; (intro W hW; (try dsimp only at hW); go_simp; try with_reducible rfl)
    (try simp only [Act.put, List.setIfInBounds_toArray, List.set_cons_zero, List.set_cons_succ])
    refine wpAnyE_takeL (preMod []) 10 (v := ?_) rfl (by kernel_rfl) (by kernel_rfl) (by kernel_rfl) (fun _ _ _ h => h) (Or.inl ⟨by rfl, ?_⟩) ?_
    rotate_left; (intro W hW; (try dsimp only at hW); go_simp; try with_reducible rfl)
    (try simp only [Act.put, List.setIfInBounds_toArray, List.set_cons_zero, List.set_cons_succ])
    refine wpAnyE_takeL (preMod []) 11 (v := ?_) rfl (by kernel_rfl) (by kernel_rfl) (by kernel_rfl) (fun _ _ _ h => h) (Or.inl ⟨by rfl, ?_⟩) ?_
    rotate_left; (intro W hW; (try dsimp only at hW); go_simp; try with_reducible rfl)
    (try simp only [Act.put, List.setIfInBounds_toArray, List.set_cons_zero, List.set_cons_succ])
    refine wpAnyE_takeL (preMod []) 12 (v := ?_) rfl (by kernel_rfl) (by kernel_rfl) (by kernel_rfl) (fun _ _ _ h => h) (Or.inl ⟨by rfl, ?_⟩) ?_
    rotate_left; (intro W hW; (try dsimp only at hW); go_simp; try with_reducible rfl)
    (try simp only [Act.put, List.setIfInBounds_toArray, List.set_cons_zero, List.set_cons_succ])
    refine wpAnyE_takeL (preMod []) 13 (v := ?_) rfl (by kernel_rfl) (by kernel_rfl) (by kernel_rfl) (fun _ _ _ h => h) (Or.inl ⟨by rfl, ?_⟩) ?_
    rotate_left; (intro W hW; (try dsimp only at hW); go_simp; try with_reducible rfl)
    (try simp only [Act.put, List.setIfInBounds_toArray, List.set_cons_zero, List.set_cons_succ])
    refine wpAnyE_takeL (preMod []) 14 (v := ?_) rfl (by kernel_rfl) (by kernel_rfl) (by kernel_rfl) (fun _ _ _ h => h) (Or.inl ⟨by rfl, ?_⟩) ?_
    rotate_left; (intro W hW; (try dsimp only at hW); go_simp; try with_reducible rfl)
    (try simp only [Act.put, List.setIfInBounds_toArray, List.set_cons_zero, List.set_cons_succ])
    refine wpAnyE_takeL (preMod []) 15 (v := ?_) rfl (by kernel_rfl) (by kernel_rfl) (by kernel_rfl) (fun _ _ _ h => h) (Or.inl ⟨by rfl, ?_⟩) ?_
    rotate_left; (intro W hW; (try dsimp only at hW); go_simp; try with_reducible rfl)
    (try simp only [Act.put, List.setIfInBounds_toArray, List.set_cons_zero, List.set_cons_succ])
    refine wpAnyE_takeL (preMod []) 16 (v := ?_) rfl (by kernel_rfl) (by kernel_rfl) (by kernel_rfl) (fun _ _ _ h => h) (Or.inl ⟨by rfl, ?_⟩) ?_
    rotate_left; (intro W hW; (try dsimp only at hW); go_simp; try with_reducible rfl)
    (try simp only [Act.put, List.setIfInBounds_toArray, List.set_cons_zero, List.set_cons_succ])
    refine wpAnyE_takeL (preMod []) 17 (v := ?_) rfl (by kernel_rfl) (by kernel_rfl) (by kernel_rfl) (fun _ _ _ h => h) (Or.inl ⟨by rfl, ?_⟩) ?_
    rotate_left; (intro W hW; (try dsimp only at hW); go_simp; try with_reducible rfl)
    (try simp only [Act.put, List.setIfInBounds_toArray, List.set_cons_zero, List.set_cons_succ])
    refine wpAnyE_takeL (preMod []) 20 (v := ?_) rfl (by kernel_rfl) (by kernel_rfl) (by kernel_rfl) (fun _ _ _ h => h) (Or.inl ⟨by rfl, ?_⟩) ?_
    rotate_left; (intro W hW; (try dsimp only at hW); go_simp; try with_reducible rfl)
    (try simp only [Act.put, List.setIfInBounds_toArray, List.set_cons_zero, List.set_cons_succ])
    refine wpAnyE_takeL (preMod []) 21 (v := ?_) rfl (by kernel_rfl) (by kernel_rfl) (by kernel_rfl) (fun _ _ _ h => h) (Or.inl ⟨by rfl, ?_⟩) ?_
    rotate_left; (intro W hW; (try dsimp only at hW); go_simp; try with_reducible rfl)
    (try simp only [Act.put, List.setIfInBounds_toArray, List.set_cons_zero, List.set_cons_succ])
    refine wpAnyE_takeL (preMod []) 22 (v := ?_) rfl (by kernel_rfl) (by kernel_rfl) (by kernel_rfl) (fun _ _ _ h => h) (Or.inl ⟨by rfl, ?_⟩) ?_
    rotate_left; (intro W hW; (try dsimp only at hW); go_simp; try with_reducible rfl)
    (try simp only [Act.put, List.setIfInBounds_toArray, List.set_cons_zero, List.set_cons_succ])
    refine wpAnyE_takeL (preMod []) 23 (v := ?_) rfl (by kernel_rfl) (by kernel_rfl) (by kernel_rfl) (fun _ _ _ h => h) (Or.inl ⟨by rfl, ?_⟩) ?_
    rotate_left; (intro W hW; (try dsimp only at hW); (have hWz : Mod [] w5 W := Mod.trans (by simp only [mod_refl_T, mod_drew_T, mod_alloc_T, hm56]) hW; have hcw := HCB.out W hWz; go_simp); try with_reducible rfl)
    (try simp only [Act.put, List.setIfInBounds_toArray, List.set_cons_zero, List.set_cons_succ])
    refine wpAnyE_ready (rs := [18]) (by kernel_rfl) (by simp) ?_
    refine AllReadyE.consL rfl (fun K hK => ?_) AllReadyE.nil
    rw [if_pos (by rfl)]
    go_simp
    go_at_call 21
    refine (outDone_any _ F5 (xs.take pos) _ (HOM.out _ (by simp only [mod_refl_T, mod_drew_T, mod_alloc_T])) (by have := HZ.out; simp; omega)).mono ?_
    rintro e' w7 ⟨v7, rfl, hown7, hmE, hf7⟩
    clear hm56
    have hm56 : Mod [] w5 w7 := (Mod.refl _ _).drew.trans hmE
    obtain ⟨gd, hbd⟩ := hown7.bs
    have hcd := conv_all hbd.1 [] (by simp)
    go_wp2_with fail
    refine hK.out _ _ (by first | exact hmE | exact Mod.refl _ _ | exact (Mod.refl _ _).alloc _) ?_
    clear hK
    (try simp only [Act.put, List.setIfInBounds_toArray, List.set_cons_zero, List.set_cons_succ])
    refine wpAnyE_takeL (preMod []) 19 (v := ?_) rfl (by kernel_rfl) (by kernel_rfl) (by kernel_rfl) (fun _ _ _ h => h) (Or.inl ⟨by rfl, ?_⟩) ?_
    rotate_left; (intro W hW; (try dsimp only at hW); (have hcw := hcd W hW; go_simp); try with_reducible rfl)
    (try simp only [Act.put, List.setIfInBounds_toArray, List.set_cons_zero, List.set_cons_succ])
    refine wpAnyE_takeL (preMod []) 24 (v := ?_) rfl (by kernel_rfl) (by kernel_rfl) (by kernel_rfl) (fun _ _ _ h => h) (Or.inl ⟨by rfl, ?_⟩) ?_
    rotate_left; (intro W hW; (try dsimp only at hW); go_simp; try with_reducible rfl)
    (try simp only [Act.put, List.setIfInBounds_toArray, List.set_cons_zero, List.set_cons_succ])
    refine wpAnyE_takeL (preMod []) 25 (v := ?_) rfl (by kernel_rfl) (by kernel_rfl) (by kernel_rfl) (fun _ _ _ h => h) (Or.inl ⟨by rfl, ?_⟩) ?_
    rotate_left; (intro W hW; (try dsimp only at hW); go_simp; try with_reducible rfl)
    (try simp only [Act.put, List.setIfInBounds_toArray, List.set_cons_zero, List.set_cons_succ])
    refine wpAnyE_takeL (preMod []) 26 (v := ?_) rfl (by kernel_rfl) (by kernel_rfl) (by kernel_rfl) (fun _ _ _ h => h) (Or.inl ⟨by rfl, ?_⟩) ?_
    rotate_left; (intro W hW; (try dsimp only at hW); go_simp; try with_reducible rfl)
    (try simp only [Act.put, List.setIfInBounds_toArray, List.set_cons_zero, List.set_cons_succ])
    refine wpAnyE_ready (rs := [27]) (by kernel_rfl) (by simp) ?_
    refine AllReadyE.consL rfl (fun K hK => ?_) AllReadyE.nil
    rw [if_pos (by rfl)]
    go_simp
    go_at_call 10
    refine (fixed_any _).mono ?_
    rintro e' w8 ⟨rfl, hmE⟩
    have hm58 := hm56.trans hmE
    go_wp2_with fail
    refine hK.out _ _ (by first | exact hmE | exact Mod.refl _ _ | exact (Mod.refl _ _).alloc _) ?_
    clear hK
    (try simp only [Act.put, List.setIfInBounds_toArray, List.set_cons_zero, List.set_cons_succ])
    refine wpAnyE_takeL (preMod []) 28 (v := ?_) rfl (by kernel_rfl) (by kernel_rfl) (by kernel_rfl) (fun _ _ _ h => h) (Or.inl ⟨by rfl, ?_⟩) ?_
    rotate_left; (intro W hW; (try dsimp only at hW); go_simp; try with_reducible rfl)
    (try simp only [Act.put, List.setIfInBounds_toArray, List.set_cons_zero, List.set_cons_succ])
    refine wpAnyE_takeL (preMod []) 29 (v := ?_) rfl (by kernel_rfl) (by kernel_rfl) (by kernel_rfl) (fun _ _ _ h => h) (Or.inl ⟨by rfl, ?_⟩) ?_
    rotate_left; (intro W hW; (try dsimp only at hW); go_simp; try with_reducible rfl)
    (try simp only [Act.put, List.setIfInBounds_toArray, List.set_cons_zero, List.set_cons_succ])
    refine wpAnyE_done (by kernel_rfl) ?_ _
    go_wp2
    go_ret
    exact ⟨rfl, HM5.out.trans hm58⟩
end Go.Proofs.Ytdiplliemdogfaa
