import Derived.Test.YtlpjeckhejbkkaaG6
section
set_option linter.unusedVariables false
set_option linter.unusedSimpArgs false
set_option maxRecDepth 20000
set_option maxHeartbeats 3200000
namespace Go.Proofs.Ytlpjeckhejbkkaa
open Go.RowKit

theorem hmE' {p : Nat} {a b c : World} (h : Mod [] b c) (k : Mod [] a b) : Mod [p] a c := (k.trans h).mono (by simp)
theorem write_any (p g : Nat) (z m : Bytes) (v : Value) (w : World) (hA : Abs w p m) (hz : BS w g v z) (hg : g ≠ p) (hl : m.length + z.length < 2 ^ 63) :
    Calls Try.prog 60 #[.pointer (some ⟨p, 0, none⟩), v] w fun e w' => e = .returned (.tuple #[]) ∧ Abs w' p (m ++ z) ∧ Mod [p] w w' := by
  obtain ⟨buf, hd, hbuf⟩ := hA
  have HD := Lib.hid hd
  have HZ := Lib.hid hz
  have HBF := Lib.hid hbuf
  obtain ⟨A, cap, rfl, hc1, hc2⟩ := hz.val
  have hcn := hd.cellN
  have hfr := hd.frozen
  have hrem : Int.tmod (m.length : Int) 64 = ((m.length % 64 : Nat) : Int) := by rw [Int.tmod_eq_emod_of_nonneg (by omega)]; omega
  have hr64 : m.length % 64 < 64 := Nat.mod_lt _ (by omega)
  clear hd hz hbuf
  go_enter Try.func60, Try.ntmps60
  obtain ⟨r, hr⟩ : ∃ r, m.length % 64 = r := ⟨_, rfl⟩
  have hri : (m.length : Int) % 64 = (r : Int) := by omega
  obtain ⟨N, hNd⟩ : ∃ N, m.length + z.length = N := ⟨_, rfl⟩
  have hN : (m.length : Int) + (z.length : Int) = (N : Int) := by omega
  have hwN : IntKind.i64.wrap (N : Int) = (N : Int) := IntWalk.i64_in _ (by omega)
  have HDN := Lib.hid hNd
  clear hNd
  go_upto_region 2 with fail
  have HD1 : Hid (DG (w.setCell ⟨p, 72, none⟩ (.int .i64 (N : Nat))) p (shaSt m) buf N) := Lib.hid (HD.out.setN _)
  have HM1 : Hid (Mod [p] w (w.setCell ⟨p, 72, none⟩ (.int .i64 (N : Nat)))) := Lib.hid ((Mod.refl [p] w).setCell _ (by simp) _)
  have HZ1 := Lib.hid (RS.mod HZ.out HM1.out (by simpa using fun _ => hg))
  generalize w.setCell ⟨p, 72, none⟩ (.int .i64 (N : Nat)) = w1 at *
  clear hcn hfr hrem HZ HD hr64
  by_cases hr0 : r = 0
  · have hri0 : ¬ (0 : Int) < (r : Int) := by omega
    rw [hr0] at hr
    go_wp2_with fail
    go_loopw [1] (fun s1 wr => ∃ (y m' : Bytes) (buf' : Bytes) (A' : Option Addr) (cap' : Nat), s1 = .slice A' y.length cap' ∧ y.length ≤ cap' ∧ cap' ≤ maxLen ∧ Hid (m' ++ y = m ++ z) ∧ Hid (m'.length % 64 = 0) ∧ Hid (BS wr g (.slice A' y.length cap') y) ∧ Hid (DG wr p (shaSt m') buf' N) ∧ Hid (Mod [p] w wr)) (fun s _ => vlen s)
    case atStart => exact ⟨z, m, buf, A, cap, rfl, hc1, hc2, Lib.hid rfl, Lib.hid hr, HZ1, HD1, HM1⟩
    case round =>
      obtain ⟨y, m1, buf1, A1, cap1, rfl, hc3, hc4, HY, HM0, HB1, HD1, HMW⟩ := hrel
      by_cases hy : 64 ≤ y.length
      · have hyi : (64 : Int) ≤ (y.length : Int) := by omega
        obtain ⟨off, rfl⟩ : ∃ off, A1 = some ⟨g, off, none⟩ := by
          obtain ⟨off, cap', hv, _⟩ := HB1.out.at_ (by omega)
          injection hv with h1; exact ⟨off, h1⟩
        have hcap : 64 ≤ cap1 := by omega
        have hcapi : (64 : Int) ≤ (cap1 : Int) := by omega
        have hw0 : Mod [] wr wr.drew := (Mod.refl _ wr).drew
        go_wp2_with fail
        have HP0 := Lib.hid hw0
        clear hw0
        have HT := Lib.hid (BS.take (n := 64) HB1.out (by omega))
        refine wp_regionE (Mod [p]) (by kernel_rfl) ?_
        simp only [List.size_toArray, List.length_cons, List.length_nil, Nat.zero_add, Nat.reduceAdd]
        refine wpAnyE_takeL (preMod _) 0 (v := ?_) rfl (by kernel_rfl) (by kernel_rfl) (by kernel_rfl) (fun _ _ _ h => h) (Or.inl ⟨by rfl, ?_⟩) ?_
        rotate_left; (intro W hW; (try dsimp only at hW); go_simp; try with_reducible rfl)
        (try simp only [Act.put, List.setIfInBounds_toArray, List.set_cons_zero, List.set_cons_succ])
        refine wpAnyE_takeL (preMod _) 1 (v := ?_) rfl (by kernel_rfl) (by kernel_rfl) (by kernel_rfl) (fun _ _ _ h => h) (Or.inl ⟨by rfl, ?_⟩) ?_
        rotate_left; (intro W hW; (try dsimp only at hW); go_simp; try with_reducible rfl)
        (try simp only [Act.put, List.setIfInBounds_toArray, List.set_cons_zero, List.set_cons_succ])
        refine wpAnyE_takeL (preMod _) 2 (v := ?_) rfl (by kernel_rfl) (by kernel_rfl) (by kernel_rfl) (fun _ _ _ h => h) (Or.inl ⟨by rfl, ?_⟩) ?_
        rotate_left; (intro W hW; (try dsimp only at hW); go_simp; try with_reducible rfl)
        (try simp only [Act.put, List.setIfInBounds_toArray, List.set_cons_zero, List.set_cons_succ])
        refine wpAnyE_takeL (preMod _) 3 (v := ?_) rfl (by kernel_rfl) (by kernel_rfl) (by kernel_rfl) (fun _ _ _ h => h) (Or.inl ⟨by rfl, ?_⟩) ?_
        rotate_left; (intro W hW; (try dsimp only at hW); go_simp; try with_reducible rfl)
        (try simp only [Act.put, List.setIfInBounds_toArray, List.set_cons_zero, List.set_cons_succ])
        refine wpAnyE_takeL (preMod _) 5 (v := ?_) rfl (by kernel_rfl) (by kernel_rfl) (by kernel_rfl) (fun _ _ _ h => h) (Or.inl ⟨by rfl, ?_⟩) ?_
        rotate_left; (intro W hW; (try dsimp only at hW); go_simp; try with_reducible rfl)
        (try simp only [Act.put, List.setIfInBounds_toArray, List.set_cons_zero, List.set_cons_succ])
        refine wpAnyE_takeL (preMod _) 6 (v := ?_) rfl (by kernel_rfl) (by kernel_rfl) (by kernel_rfl) (fun _ _ _ h => h) (Or.inl ⟨by rfl, ?_⟩) ?_
        rotate_left; (intro W hW; (try dsimp only at hW); go_simp; try with_reducible rfl)
        (try simp only [Act.put, List.setIfInBounds_toArray, List.set_cons_zero, List.set_cons_succ])
        refine wpAnyE_ready (rs := [4]) (by kernel_rfl) (by simp) ?_
        refine AllReadyE.consL rfl (fun K hK => ?_) AllReadyE.nil
        rw [if_pos (by rfl)]
        refine opwp_load_cells rtW8 (.tmp 54) rfl rfl rfl HD1.out.state ?_
        refine hK.out _ _ (by first | exact hmE | exact Mod.refl _ _ | exact (Mod.refl _ _).alloc _) ?_
        clear hK
        (try simp only [Act.put, List.setIfInBounds_toArray, List.set_cons_zero, List.set_cons_succ])
        refine wpAnyE_ready (rs := [7]) (by kernel_rfl) (by simp) ?_
        refine AllReadyE.consL rfl (fun K hK => ?_) AllReadyE.nil
        rw [if_pos (by rfl)]
        go_simp
        go_at_call 80
        refine (piece_any (shaSt m1) (y.take 64) g _ wr.drew HT.out (by simp; omega)).mono ?_
        rintro e' w5 ⟨rfl, hm5⟩
        have hmE : Mod [p] wr.drew w5 := hm5.mono (by simp)
        have HD1new := Lib.hid (HD1.out.mod (HP0.out.trans hm5) (by simp)); clear HD1; have HD1 := HD1new; clear HD1new
        have HB2 := Lib.hid (RS.mod HB1.out (HP0.out.trans hm5) (by simp))
        have HM5 := Lib.hid (HMW.out.trans (hmE' hm5 HP0.out))
        clear hm5
        go_wp2_with fail
        refine hK.out _ _ (by first | exact hmE | exact Mod.refl _ _ | exact (Mod.refl _ _).alloc _) ?_
        clear hK
        (try simp only [Act.put, List.setIfInBounds_toArray, List.set_cons_zero, List.set_cons_succ])
        refine wpAnyE_takeL (preMod _) 8 (v := ?_) rfl (by kernel_rfl) (by kernel_rfl) (by kernel_rfl) (fun _ _ _ h => h) (Or.inl ⟨by rfl, ?_⟩) ?_
        rotate_left; (intro W hW; (try dsimp only at hW); go_simp; try with_reducible rfl)
        (try simp only [Act.put, List.setIfInBounds_toArray, List.set_cons_zero, List.set_cons_succ])
        refine wpAnyE_takeL (preMod _) 9 (v := ?_) rfl (by kernel_rfl) (by kernel_rfl) (by kernel_rfl) (fun _ _ _ h => h) (Or.inl ⟨by rfl, ?_⟩) ?_
        rotate_left; (intro W hW; (try dsimp only at hW); go_simp; try with_reducible rfl)
        (try simp only [Act.put, List.setIfInBounds_toArray, List.set_cons_zero, List.set_cons_succ])
        refine wpAnyE_ready (rs := [10]) (by kernel_rfl) (by simp) ?_
        refine AllReadyE.consL rfl (fun K hK => ?_) AllReadyE.nil
        rw [if_pos (by rfl)]
        refine opwp_store_dg rfl _ _ rfl (s' := pieceSt (shaSt m1) (y.take 64)) (by rfl) (by rfl) HD1.out ?_
        intro w6 hd6 hm6
        have hmE : Mod [p] _ w6 := hm6
        have HD6 := Lib.hid hd6
        have HB6 := Lib.hid (RS.mod HB2.out hm6 (by simpa using fun _ => hg))
        have HM6 := Lib.hid (HM5.out.trans hm6)
        clear hd6 hm6
        refine hK.out _ _ (by first | exact hmE | exact Mod.refl _ _ | exact (Mod.refl _ _).alloc _) ?_
        clear hK
        (try simp only [Act.put, List.setIfInBounds_toArray, List.set_cons_zero, List.set_cons_succ])
        refine wpAnyE_done (by kernel_rfl) ?_ _
        have HDn : Hid (DG w6 p (shaSt (m1 ++ y.take 64)) buf1 N) := Lib.hid (by
          rw [(sha_fill m1 (y.take 64) (by rw [HM0.out]; simp; omega)).1, restOf_full _ HM0.out, List.nil_append]; exact HD6.out)
        have HMn : Hid ((m1 ++ y.take 64).length % 64 = 0) := Lib.hid (sha_fill m1 (y.take 64) (by rw [HM0.out]; simp; omega)).2
        have HYn : Hid ((m1 ++ y.take 64) ++ y.drop 64 = m ++ z) := Lib.hid (by rw [List.append_assoc, List.take_append_drop]; exact HY.out)
        by_cases hcc : cap1 = 64
        · have HBn : Hid (BS w6 g (.slice (some ⟨g, off, none⟩) (y.drop 64).length 0) (y.drop 64)) := Lib.hid (BS.done (by omega))
          go_wp2_with fail
          exact ⟨⟨y.drop 64, m1 ++ y.take 64, buf1, some ⟨g, off, none⟩, 0, by simp, by simp; omega, by omega, HYn, HMn, HBn, HDn, HM6⟩, by simp [vlen]; omega⟩
        · have HBn : Hid (BS w6 g (.slice (some ⟨g, off + 64, none⟩) (y.drop 64).length (cap1 - 64)) (y.drop 64)) := Lib.hid (BS.after HB6.out (by omega))
          go_wp2_with fail
          exact ⟨⟨y.drop 64, m1 ++ y.take 64, buf1, some ⟨g, off + 64, none⟩, cap1 - 64, by simp, by simp; omega, by omega, HYn, HMn, HBn, HDn, HM6⟩, by simp [vlen]; omega⟩
      · have hyi : ¬ (64 : Int) ≤ (y.length : Int) := by omega
        have hmin : min (64 - 0) y.length = y.length := by omega
        go_wp2_with (first | ((with_reducible refine wpList_copy_dg rfl _ _ rfl (r := 0) (dCap := 64) hmin ?hd ?hs HD1.out HB1.out (by omega) ?_); (case hd => exact rfl); (case hs => exact rfl); intro w9 hd9 hm9; have HD9 := Lib.hid hd9; have HM9 := Lib.hid (HMW.out.trans hm9); clear hd9 hm9))
        go_end0
        exact ⟨rfl, Abs.more (r := 0) (N := N) HY.out HM0.out (by omega) HD1.out.1 (by rw [restOf_full _ HM0.out]; rfl) (by rw [List.length_append]; exact HDN.out) (by have h := HD9.out; rwa [List.take_of_length_le (by omega)] at h), HM9.out⟩
  · have hri0 : (0 : Int) < (r : Int) := by omega
    have hr64 : r < 64 := by omega
    have hri64 : (r : Int) ≤ 64 := by omega
    obtain ⟨c, hc⟩ : ∃ c, min (64 - r) z.length = c := ⟨_, rfl⟩
    have hcz : c ≤ z.length := by omega
    have hwc : IntKind.i64.wrap ((r : Int) + (c : Int)) = (r : Int) + (c : Int) := IntWalk.i64_in _ (by omega)
    have hci : (0 : Int) ≤ (c : Int) ∧ (c : Int) ≤ (cap : Int) := by omega
    have HC := Lib.hid hc
    by_cases hfull : r + c < 64
    · have hfi : (r : Int) + (c : Int) < 64 := by omega
      go_wp2_with (first | ((with_reducible refine wpList_copy_dg rfl _ _ rfl (r := r) (dCap := 64 - r) HC.out ?hd ?hs HD1.out HZ1.out (by omega) ?_); (case hd => exact rfl); (case hs => exact rfl); intro w9 hd9 hm9; have HD9 := Lib.hid hd9; have HM9 := Lib.hid (HM1.out.trans hm9); clear hd9 hm9))
      all_goals exact bodyPost_ret (results_none rfl _ _ _) rfl ⟨rfl, Abs.more (r := r) (N := N) rfl hr (by omega) HD1.out.1 (by rw [← hr]; exact HBF.out) (by rw [List.length_append]; exact HDN.out) (by have h := HD9.out; rwa [List.take_of_length_le (by omega)] at h), HM9.out⟩
    · have HC64 : Hid (c = 64 - r) := Lib.hid (by omega)
      have hfi : ¬ (r : Int) + (c : Int) < 64 := by omega
      obtain ⟨off, rfl⟩ : ∃ off, A = some ⟨g, off, none⟩ := by
        obtain ⟨off, cap', hv, _⟩ := HZ1.out.at_ (by omega)
        injection hv with h1; exact ⟨off, h1⟩
      by_cases hcc : cap = c
      · go_wp2_with (first | ((with_reducible refine wpList_copy_dg rfl _ _ rfl (r := r) (dCap := 64 - r) HC.out ?hd ?hs HD1.out HZ1.out (by omega) ?_); (case hd => exact rfl); (case hs => exact rfl); intro w9 hd9 hm9; have HD9 := Lib.hid hd9; have HM9 := Lib.hid (HM1.out.trans hm9); have HZ9 := Lib.hid (RS.mod HZ1.out hm9 (by simpa using fun _ => hg)); clear hd9 hm9))
        have HPw : Hid (Mod [] w9 w9.drew) := Lib.hid (Mod.refl _ w9).drew
        obtain ⟨buf2, hb2⟩ : ∃ b, splice buf r (z.take (64 - r)) = b := ⟨_, rfl⟩
        rw [hb2] at HD9
        have HB2f : Hid (pieceSt (shaSt m) buf2 = shaSt (m ++ z.take c)) := Lib.hid (by
          have h1 := HC64.out
          rw [(sha_fill m (z.take c) (by rw [hr]; simp; omega)).1, ← hb2, splice_fill hr hr64 (by omega) HD1.out.1 (by rw [← hr]; exact HBF.out), ← HC64.out])
        refine wp_regionE (Mod [p]) (by kernel_rfl) ?_
        simp only [List.size_toArray, List.length_cons, List.length_nil, Nat.zero_add, Nat.reduceAdd]
        refine wpAnyE_takeL (preMod _) 0 (v := ?_) rfl (by kernel_rfl) (by kernel_rfl) (by kernel_rfl) (fun _ _ _ h => h) (Or.inl ⟨by rfl, ?_⟩) ?_
        rotate_left; (intro W hW; (try dsimp only at hW); go_simp; try with_reducible rfl)
        (try simp only [Act.put, List.setIfInBounds_toArray, List.set_cons_zero, List.set_cons_succ])
        refine wpAnyE_takeL (preMod _) 1 (v := ?_) rfl (by kernel_rfl) (by kernel_rfl) (by kernel_rfl) (fun _ _ _ h => h) (Or.inl ⟨by rfl, ?_⟩) ?_
        rotate_left; (intro W hW; (try dsimp only at hW); go_simp; try with_reducible rfl)
        (try simp only [Act.put, List.setIfInBounds_toArray, List.set_cons_zero, List.set_cons_succ])
        refine wpAnyE_takeL (preMod _) 2 (v := ?_) rfl (by kernel_rfl) (by kernel_rfl) (by kernel_rfl) (fun _ _ _ h => h) (Or.inl ⟨by rfl, ?_⟩) ?_
        rotate_left; (intro W hW; (try dsimp only at hW); go_simp; try with_reducible rfl)
        (try simp only [Act.put, List.setIfInBounds_toArray, List.set_cons_zero, List.set_cons_succ])
        refine wpAnyE_takeL (preMod _) 3 (v := ?_) rfl (by kernel_rfl) (by kernel_rfl) (by kernel_rfl) (fun _ _ _ h => h) (Or.inl ⟨by rfl, ?_⟩) ?_
        rotate_left; (intro W hW; (try dsimp only at hW); go_simp; try with_reducible rfl)
        (try simp only [Act.put, List.setIfInBounds_toArray, List.set_cons_zero, List.set_cons_succ])
        refine wpAnyE_takeL (preMod _) 5 (v := ?_) rfl (by kernel_rfl) (by kernel_rfl) (by kernel_rfl) (fun _ _ _ h => h) (Or.inl ⟨by rfl, ?_⟩) ?_
        rotate_left; (intro W hW; (try dsimp only at hW); go_simp; try with_reducible rfl)
        (try simp only [Act.put, List.setIfInBounds_toArray, List.set_cons_zero, List.set_cons_succ])
        refine wpAnyE_takeL (preMod _) 6 (v := ?_) rfl (by kernel_rfl) (by kernel_rfl) (by kernel_rfl) (fun _ _ _ h => h) (Or.inl ⟨by rfl, ?_⟩) ?_
        rotate_left; (intro W hW; (try dsimp only at hW); go_simp; try with_reducible rfl)
        (try simp only [Act.put, List.setIfInBounds_toArray, List.set_cons_zero, List.set_cons_succ])
        refine wpAnyE_takeL (preMod _) 7 (v := ?_) rfl (by kernel_rfl) (by kernel_rfl) (by kernel_rfl) (fun _ _ _ h => h) (Or.inl ⟨by rfl, ?_⟩) ?_
        rotate_left; (intro W hW; (try dsimp only at hW); go_simp; try with_reducible rfl)
        (try simp only [Act.put, List.setIfInBounds_toArray, List.set_cons_zero, List.set_cons_succ])
        refine wpAnyE_takeL (preMod _) 8 (v := ?_) rfl (by kernel_rfl) (by kernel_rfl) (by kernel_rfl) (fun _ _ _ h => h) (Or.inl ⟨by rfl, ?_⟩) ?_
        rotate_left; (intro W hW; (try dsimp only at hW); go_simp; try with_reducible rfl)
        (try simp only [Act.put, List.setIfInBounds_toArray, List.set_cons_zero, List.set_cons_succ])
        refine wpAnyE_ready (rs := [4]) (by kernel_rfl) (by simp) ?_
        refine AllReadyE.consL rfl (fun K hK => ?_) AllReadyE.nil
        rw [if_pos (by rfl)]
        refine opwp_load_cells rtW8 (.tmp 39) rfl rfl rfl HD9.out.state ?_
        refine hK.out _ _ (by first | exact hmE | exact Mod.refl _ _ | exact (Mod.refl _ _).alloc _) ?_
        clear hK
        (try simp only [Act.put, List.setIfInBounds_toArray, List.set_cons_zero, List.set_cons_succ])
        refine wpAnyE_ready (rs := [9]) (by kernel_rfl) (by simp) ?_
        refine AllReadyE.consL rfl (fun K hK => ?_) AllReadyE.nil
        rw [if_pos (by rfl)]
        go_simp
        go_at_call 80
        refine (piece_any (shaSt m) buf2 p _ w9.drew HD9.out.buffer HD9.out.1).mono ?_
        rintro e' w5 ⟨rfl, hm5⟩
        have hmE : Mod [p] w9.drew w5 := hm5.mono (by simp)
        have HD9new := Lib.hid (HD9.out.mod (HPw.out.trans hm5) (by simp)); clear HD9; have HD9 := HD9new; clear HD9new
        have HB2 := Lib.hid (RS.mod HZ9.out (HPw.out.trans hm5) (by simp))
        have HM5 := Lib.hid (HM9.out.trans (hmE' hm5 HPw.out))
        clear hm5
        go_wp2_with fail
        refine hK.out _ _ (by first | exact hmE | exact Mod.refl _ _ | exact (Mod.refl _ _).alloc _) ?_
        clear hK
        (try simp only [Act.put, List.setIfInBounds_toArray, List.set_cons_zero, List.set_cons_succ])
        refine wpAnyE_takeL (preMod _) 10 (v := ?_) rfl (by kernel_rfl) (by kernel_rfl) (by kernel_rfl) (fun _ _ _ h => h) (Or.inl ⟨by rfl, ?_⟩) ?_
        rotate_left; (intro W hW; (try dsimp only at hW); go_simp; try with_reducible rfl)
        (try simp only [Act.put, List.setIfInBounds_toArray, List.set_cons_zero, List.set_cons_succ])
        refine wpAnyE_takeL (preMod _) 11 (v := ?_) rfl (by kernel_rfl) (by kernel_rfl) (by kernel_rfl) (fun _ _ _ h => h) (Or.inl ⟨by rfl, ?_⟩) ?_
        rotate_left; (intro W hW; (try dsimp only at hW); go_simp; try with_reducible rfl)
        (try simp only [Act.put, List.setIfInBounds_toArray, List.set_cons_zero, List.set_cons_succ])
        refine wpAnyE_ready (rs := [12]) (by kernel_rfl) (by simp) ?_
        refine AllReadyE.consL rfl (fun K hK => ?_) AllReadyE.nil
        rw [if_pos (by rfl)]
        refine opwp_store_dg rfl _ _ rfl (s' := pieceSt (shaSt m) buf2) (by rfl) (by rfl) HD9.out ?_
        intro w6 hd6 hm6
        have hmE : Mod [p] _ w6 := hm6
        have HD6 := Lib.hid hd6
        have HZz : Hid (BS w6 g _ z) := Lib.hid (RS.mod HB2.out hm6 (by simpa using fun _ => hg))
        have HMWs := Lib.hid (HM5.out.trans hm6)
        clear hd6 hm6
        refine hK.out _ _ (by first | exact hmE | exact Mod.refl _ _ | exact (Mod.refl _ _).alloc _) ?_
        clear hK
        (try simp only [Act.put, List.setIfInBounds_toArray, List.set_cons_zero, List.set_cons_succ])
        refine wpAnyE_done (by kernel_rfl) ?_ _
        have HDs : Hid (DG w6 p (shaSt (m ++ z.take c)) buf2 N) := Lib.hid (by rw [← HB2f.out]; exact HD6.out)
        have HMs : Hid ((m ++ z.take c).length % 64 = 0) := Lib.hid (sha_fill m (z.take c) (by have h1 := HC64.out; rw [hr]; simp; omega)).2
        have HYs : Hid ((m ++ z.take c) ++ z.drop c = m ++ z) := Lib.hid (by rw [List.append_assoc, List.take_append_drop])
        have HBs : Hid (BS w6 g (.slice (some ⟨g, off, none⟩) (z.drop c).length (0)) (z.drop c)) := Lib.hid (BS.done (by omega))
        clear HD9 HB2 HM5 HZ9 HM9 HD6 HB2f hmE HPw
        go_wp2_with fail
        go_loopw [1] (fun s1 wr => ∃ (y m' : Bytes) (buf' : Bytes) (A' : Option Addr) (cap' : Nat), s1 = .slice A' y.length cap' ∧ y.length ≤ cap' ∧ cap' ≤ maxLen ∧ Hid (m' ++ y = m ++ z) ∧ Hid (m'.length % 64 = 0) ∧ Hid (BS wr g (.slice A' y.length cap') y) ∧ Hid (DG wr p (shaSt m') buf' N) ∧ Hid (Mod [p] w wr)) (fun s _ => vlen s)
        case atStart => exact ⟨z.drop c, m ++ z.take c, buf2, some ⟨g, off, none⟩, 0, by simp, by simp; omega, by omega, HYs, HMs, HBs, HDs, HMWs⟩
        case round =>
          obtain ⟨y, m1, buf1, A1, cap1, rfl, hc3, hc4, HY, HM0, HB1, HDx, HMW⟩ := hrel
          by_cases hy : 64 ≤ y.length
          · have hyi : (64 : Int) ≤ (y.length : Int) := by omega
            obtain ⟨off, rfl⟩ : ∃ off, A1 = some ⟨g, off, none⟩ := by
              obtain ⟨off, cap', hv, _⟩ := HB1.out.at_ (by omega)
              injection hv with h1; exact ⟨off, h1⟩
            have hcap : 64 ≤ cap1 := by omega
            have hcapi : (64 : Int) ≤ (cap1 : Int) := by omega
            have hw0 : Mod [] wr wr.drew := (Mod.refl _ wr).drew
            go_wp2_with fail
            have HP0 := Lib.hid hw0
            clear hw0
            have HT := Lib.hid (BS.take (n := 64) HB1.out (by omega))
            refine wp_regionE (Mod [p]) (by kernel_rfl) ?_
            simp only [List.size_toArray, List.length_cons, List.length_nil, Nat.zero_add, Nat.reduceAdd]
            refine wpAnyE_takeL (preMod _) 0 (v := ?_) rfl (by kernel_rfl) (by kernel_rfl) (by kernel_rfl) (fun _ _ _ h => h) (Or.inl ⟨by rfl, ?_⟩) ?_
            rotate_left; (intro W hW; (try dsimp only at hW); go_simp; try with_reducible rfl)
            (try simp only [Act.put, List.setIfInBounds_toArray, List.set_cons_zero, List.set_cons_succ])
            refine wpAnyE_takeL (preMod _) 1 (v := ?_) rfl (by kernel_rfl) (by kernel_rfl) (by kernel_rfl) (fun _ _ _ h => h) (Or.inl ⟨by rfl, ?_⟩) ?_
            rotate_left; (intro W hW; (try dsimp only at hW); go_simp; try with_reducible rfl)
            (try simp only [Act.put, List.setIfInBounds_toArray, List.set_cons_zero, List.set_cons_succ])
            refine wpAnyE_takeL (preMod _) 2 (v := ?_) rfl (by kernel_rfl) (by kernel_rfl) (by kernel_rfl) (fun _ _ _ h => h) (Or.inl ⟨by rfl, ?_⟩) ?_
            rotate_left; (intro W hW; (try dsimp only at hW); go_simp; try with_reducible rfl)
            (try simp only [Act.put, List.setIfInBounds_toArray, List.set_cons_zero, List.set_cons_succ])
            refine wpAnyE_takeL (preMod _) 3 (v := ?_) rfl (by kernel_rfl) (by kernel_rfl) (by kernel_rfl) (fun _ _ _ h => h) (Or.inl ⟨by rfl, ?_⟩) ?_
            rotate_left; (intro W hW; (try dsimp only at hW); go_simp; try with_reducible rfl)
            (try simp only [Act.put, List.setIfInBounds_toArray, List.set_cons_zero, List.set_cons_succ])
            refine wpAnyE_takeL (preMod _) 5 (v := ?_) rfl (by kernel_rfl) (by kernel_rfl) (by kernel_rfl) (fun _ _ _ h => h) (Or.inl ⟨by rfl, ?_⟩) ?_
            rotate_left; (intro W hW; (try dsimp only at hW); go_simp; try with_reducible rfl)
            (try simp only [Act.put, List.setIfInBounds_toArray, List.set_cons_zero, List.set_cons_succ])
            refine wpAnyE_takeL (preMod _) 6 (v := ?_) rfl (by kernel_rfl) (by kernel_rfl) (by kernel_rfl) (fun _ _ _ h => h) (Or.inl ⟨by rfl, ?_⟩) ?_
            rotate_left; (intro W hW; (try dsimp only at hW); go_simp; try with_reducible rfl)
            (try simp only [Act.put, List.setIfInBounds_toArray, List.set_cons_zero, List.set_cons_succ])
            refine wpAnyE_ready (rs := [4]) (by kernel_rfl) (by simp) ?_
            refine AllReadyE.consL rfl (fun K hK => ?_) AllReadyE.nil
            rw [if_pos (by rfl)]
            refine opwp_load_cells rtW8 (.tmp 54) rfl rfl rfl HDx.out.state ?_
            refine hK.out _ _ (by first | exact hmE | exact Mod.refl _ _ | exact (Mod.refl _ _).alloc _) ?_
            clear hK
            (try simp only [Act.put, List.setIfInBounds_toArray, List.set_cons_zero, List.set_cons_succ])
            refine wpAnyE_ready (rs := [7]) (by kernel_rfl) (by simp) ?_
            refine AllReadyE.consL rfl (fun K hK => ?_) AllReadyE.nil
            rw [if_pos (by rfl)]
            go_simp
            go_at_call 80
            refine (piece_any (shaSt m1) (y.take 64) g _ wr.drew HT.out (by simp; omega)).mono ?_
            rintro e' w5 ⟨rfl, hm5⟩
            have hmE : Mod [p] wr.drew w5 := hm5.mono (by simp)
            have HDxnew := Lib.hid (HDx.out.mod (HP0.out.trans hm5) (by simp)); clear HDx; have HDx := HDxnew; clear HDxnew
            have HB2 := Lib.hid (RS.mod HB1.out (HP0.out.trans hm5) (by simp))
            have HM5 := Lib.hid (HMW.out.trans (hmE' hm5 HP0.out))
            clear hm5
            go_wp2_with fail
            refine hK.out _ _ (by first | exact hmE | exact Mod.refl _ _ | exact (Mod.refl _ _).alloc _) ?_
            clear hK
            (try simp only [Act.put, List.setIfInBounds_toArray, List.set_cons_zero, List.set_cons_succ])
            refine wpAnyE_takeL (preMod _) 8 (v := ?_) rfl (by kernel_rfl) (by kernel_rfl) (by kernel_rfl) (fun _ _ _ h => h) (Or.inl ⟨by rfl, ?_⟩) ?_
            rotate_left; (intro W hW; (try dsimp only at hW); go_simp; try with_reducible rfl)
            (try simp only [Act.put, List.setIfInBounds_toArray, List.set_cons_zero, List.set_cons_succ])
            refine wpAnyE_takeL (preMod _) 9 (v := ?_) rfl (by kernel_rfl) (by kernel_rfl) (by kernel_rfl) (fun _ _ _ h => h) (Or.inl ⟨by rfl, ?_⟩) ?_
            rotate_left; (intro W hW; (try dsimp only at hW); go_simp; try with_reducible rfl)
            (try simp only [Act.put, List.setIfInBounds_toArray, List.set_cons_zero, List.set_cons_succ])
            refine wpAnyE_ready (rs := [10]) (by kernel_rfl) (by simp) ?_
            refine AllReadyE.consL rfl (fun K hK => ?_) AllReadyE.nil
            rw [if_pos (by rfl)]
            refine opwp_store_dg rfl _ _ rfl (s' := pieceSt (shaSt m1) (y.take 64)) (by rfl) (by rfl) HDx.out ?_
            intro w6 hd6 hm6
            have hmE : Mod [p] _ w6 := hm6
            have HD6 := Lib.hid hd6
            have HB6 := Lib.hid (RS.mod HB2.out hm6 (by simpa using fun _ => hg))
            have HM6 := Lib.hid (HM5.out.trans hm6)
            clear hd6 hm6
            refine hK.out _ _ (by first | exact hmE | exact Mod.refl _ _ | exact (Mod.refl _ _).alloc _) ?_
            clear hK
            (try simp only [Act.put, List.setIfInBounds_toArray, List.set_cons_zero, List.set_cons_succ])
            refine wpAnyE_done (by kernel_rfl) ?_ _
            have HDn : Hid (DG w6 p (shaSt (m1 ++ y.take 64)) buf1 N) := Lib.hid (by
              rw [(sha_fill m1 (y.take 64) (by rw [HM0.out]; simp; omega)).1, restOf_full _ HM0.out, List.nil_append]; exact HD6.out)
            have HMn : Hid ((m1 ++ y.take 64).length % 64 = 0) := Lib.hid (sha_fill m1 (y.take 64) (by rw [HM0.out]; simp; omega)).2
            have HYn : Hid ((m1 ++ y.take 64) ++ y.drop 64 = m ++ z) := Lib.hid (by rw [List.append_assoc, List.take_append_drop]; exact HY.out)
            by_cases hcc : cap1 = 64
            · have HBn : Hid (BS w6 g (.slice (some ⟨g, off, none⟩) (y.drop 64).length 0) (y.drop 64)) := Lib.hid (BS.done (by omega))
              go_wp2_with fail
              exact ⟨⟨y.drop 64, m1 ++ y.take 64, buf1, some ⟨g, off, none⟩, 0, by simp, by simp; omega, by omega, HYn, HMn, HBn, HDn, HM6⟩, by simp [vlen]; omega⟩
            · have HBn : Hid (BS w6 g (.slice (some ⟨g, off + 64, none⟩) (y.drop 64).length (cap1 - 64)) (y.drop 64)) := Lib.hid (BS.after HB6.out (by omega))
              go_wp2_with fail
              exact ⟨⟨y.drop 64, m1 ++ y.take 64, buf1, some ⟨g, off + 64, none⟩, cap1 - 64, by simp, by simp; omega, by omega, HYn, HMn, HBn, HDn, HM6⟩, by simp [vlen]; omega⟩
          · have hyi : ¬ (64 : Int) ≤ (y.length : Int) := by omega
            have hmin : min (64 - 0) y.length = y.length := by omega
            go_wp2_with (first | ((with_reducible refine wpList_copy_dg rfl _ _ rfl (r := 0) (dCap := 64) hmin ?hd ?hs HDx.out HB1.out (by omega) ?_); (case hd => exact rfl); (case hs => exact rfl); intro w9 hd9 hm9; have HD9 := Lib.hid hd9; have HM9 := Lib.hid (HMW.out.trans hm9); clear hd9 hm9))
            go_end0
            exact ⟨rfl, Abs.more (r := 0) (N := N) HY.out HM0.out (by omega) HDx.out.1 (by rw [restOf_full _ HM0.out]; rfl) (by rw [List.length_append]; exact HDN.out) (by have h := HD9.out; rwa [List.take_of_length_le (by omega)] at h), HM9.out⟩
      · go_wp2_with (first | ((with_reducible refine wpList_copy_dg rfl _ _ rfl (r := r) (dCap := 64 - r) HC.out ?hd ?hs HD1.out HZ1.out (by omega) ?_); (case hd => exact rfl); (case hs => exact rfl); intro w9 hd9 hm9; have HD9 := Lib.hid hd9; have HM9 := Lib.hid (HM1.out.trans hm9); have HZ9 := Lib.hid (RS.mod HZ1.out hm9 (by simpa using fun _ => hg)); clear hd9 hm9))
        have HPw : Hid (Mod [] w9 w9.drew) := Lib.hid (Mod.refl _ w9).drew
        obtain ⟨buf2, hb2⟩ : ∃ b, splice buf r (z.take (64 - r)) = b := ⟨_, rfl⟩
        rw [hb2] at HD9
        have HB2f : Hid (pieceSt (shaSt m) buf2 = shaSt (m ++ z.take c)) := Lib.hid (by
          have h1 := HC64.out
          rw [(sha_fill m (z.take c) (by rw [hr]; simp; omega)).1, ← hb2, splice_fill hr hr64 (by omega) HD1.out.1 (by rw [← hr]; exact HBF.out), ← HC64.out])
        refine wp_regionE (Mod [p]) (by kernel_rfl) ?_
        simp only [List.size_toArray, List.length_cons, List.length_nil, Nat.zero_add, Nat.reduceAdd]
        refine wpAnyE_takeL (preMod _) 0 (v := ?_) rfl (by kernel_rfl) (by kernel_rfl) (by kernel_rfl) (fun _ _ _ h => h) (Or.inl ⟨by rfl, ?_⟩) ?_
        rotate_left; (intro W hW; (try dsimp only at hW); go_simp; try with_reducible rfl)
        (try simp only [Act.put, List.setIfInBounds_toArray, List.set_cons_zero, List.set_cons_succ])
        refine wpAnyE_takeL (preMod _) 1 (v := ?_) rfl (by kernel_rfl) (by kernel_rfl) (by kernel_rfl) (fun _ _ _ h => h) (Or.inl ⟨by rfl, ?_⟩) ?_
        rotate_left; (intro W hW; (try dsimp only at hW); go_simp; try with_reducible rfl)
        (try simp only [Act.put, List.setIfInBounds_toArray, List.set_cons_zero, List.set_cons_succ])
        refine wpAnyE_takeL (preMod _) 2 (v := ?_) rfl (by kernel_rfl) (by kernel_rfl) (by kernel_rfl) (fun _ _ _ h => h) (Or.inl ⟨by rfl, ?_⟩) ?_
        rotate_left; (intro W hW; (try dsimp only at hW); go_simp; try with_reducible rfl)
        (try simp only [Act.put, List.setIfInBounds_toArray, List.set_cons_zero, List.set_cons_succ])
        refine wpAnyE_takeL (preMod _) 3 (v := ?_) rfl (by kernel_rfl) (by kernel_rfl) (by kernel_rfl) (fun _ _ _ h => h) (Or.inl ⟨by rfl, ?_⟩) ?_
        rotate_left; (intro W hW; (try dsimp only at hW); go_simp; try with_reducible rfl)
        (try simp only [Act.put, List.setIfInBounds_toArray, List.set_cons_zero, List.set_cons_succ])
        refine wpAnyE_takeL (preMod _) 5 (v := ?_) rfl (by kernel_rfl) (by kernel_rfl) (by kernel_rfl) (fun _ _ _ h => h) (Or.inl ⟨by rfl, ?_⟩) ?_
        rotate_left; (intro W hW; (try dsimp only at hW); go_simp; try with_reducible rfl)
        (try simp only [Act.put, List.setIfInBounds_toArray, List.set_cons_zero, List.set_cons_succ])
        refine wpAnyE_takeL (preMod _) 6 (v := ?_) rfl (by kernel_rfl) (by kernel_rfl) (by kernel_rfl) (fun _ _ _ h => h) (Or.inl ⟨by rfl, ?_⟩) ?_
        rotate_left; (intro W hW; (try dsimp only at hW); go_simp; try with_reducible rfl)
        (try simp only [Act.put, List.setIfInBounds_toArray, List.set_cons_zero, List.set_cons_succ])
        refine wpAnyE_takeL (preMod _) 7 (v := ?_) rfl (by kernel_rfl) (by kernel_rfl) (by kernel_rfl) (fun _ _ _ h => h) (Or.inl ⟨by rfl, ?_⟩) ?_
        rotate_left; (intro W hW; (try dsimp only at hW); go_simp; try with_reducible rfl)
        (try simp only [Act.put, List.setIfInBounds_toArray, List.set_cons_zero, List.set_cons_succ])
        refine wpAnyE_takeL (preMod _) 8 (v := ?_) rfl (by kernel_rfl) (by kernel_rfl) (by kernel_rfl) (fun _ _ _ h => h) (Or.inl ⟨by rfl, ?_⟩) ?_
        rotate_left; (intro W hW; (try dsimp only at hW); go_simp; try with_reducible rfl)
        (try simp only [Act.put, List.setIfInBounds_toArray, List.set_cons_zero, List.set_cons_succ])
        refine wpAnyE_ready (rs := [4]) (by kernel_rfl) (by simp) ?_
        refine AllReadyE.consL rfl (fun K hK => ?_) AllReadyE.nil
        rw [if_pos (by rfl)]
        refine opwp_load_cells rtW8 (.tmp 39) rfl rfl rfl HD9.out.state ?_
        refine hK.out _ _ (by first | exact hmE | exact Mod.refl _ _ | exact (Mod.refl _ _).alloc _) ?_
        clear hK
        (try simp only [Act.put, List.setIfInBounds_toArray, List.set_cons_zero, List.set_cons_succ])
        refine wpAnyE_ready (rs := [9]) (by kernel_rfl) (by simp) ?_
        refine AllReadyE.consL rfl (fun K hK => ?_) AllReadyE.nil
        rw [if_pos (by rfl)]
        go_simp
        go_at_call 80
        refine (piece_any (shaSt m) buf2 p _ w9.drew HD9.out.buffer HD9.out.1).mono ?_
        rintro e' w5 ⟨rfl, hm5⟩
        have hmE : Mod [p] w9.drew w5 := hm5.mono (by simp)
        have HD9new := Lib.hid (HD9.out.mod (HPw.out.trans hm5) (by simp)); clear HD9; have HD9 := HD9new; clear HD9new
        have HB2 := Lib.hid (RS.mod HZ9.out (HPw.out.trans hm5) (by simp))
        have HM5 := Lib.hid (HM9.out.trans (hmE' hm5 HPw.out))
        clear hm5
        go_wp2_with fail
        refine hK.out _ _ (by first | exact hmE | exact Mod.refl _ _ | exact (Mod.refl _ _).alloc _) ?_
        clear hK
        (try simp only [Act.put, List.setIfInBounds_toArray, List.set_cons_zero, List.set_cons_succ])
        refine wpAnyE_takeL (preMod _) 10 (v := ?_) rfl (by kernel_rfl) (by kernel_rfl) (by kernel_rfl) (fun _ _ _ h => h) (Or.inl ⟨by rfl, ?_⟩) ?_
        rotate_left; (intro W hW; (try dsimp only at hW); go_simp; try with_reducible rfl)
        (try simp only [Act.put, List.setIfInBounds_toArray, List.set_cons_zero, List.set_cons_succ])
        refine wpAnyE_takeL (preMod _) 11 (v := ?_) rfl (by kernel_rfl) (by kernel_rfl) (by kernel_rfl) (fun _ _ _ h => h) (Or.inl ⟨by rfl, ?_⟩) ?_
        rotate_left; (intro W hW; (try dsimp only at hW); go_simp; try with_reducible rfl)
        (try simp only [Act.put, List.setIfInBounds_toArray, List.set_cons_zero, List.set_cons_succ])
        refine wpAnyE_ready (rs := [12]) (by kernel_rfl) (by simp) ?_
        refine AllReadyE.consL rfl (fun K hK => ?_) AllReadyE.nil
        rw [if_pos (by rfl)]
        refine opwp_store_dg rfl _ _ rfl (s' := pieceSt (shaSt m) buf2) (by rfl) (by rfl) HD9.out ?_
        intro w6 hd6 hm6
        have hmE : Mod [p] _ w6 := hm6
        have HD6 := Lib.hid hd6
        have HZz : Hid (BS w6 g _ z) := Lib.hid (RS.mod HB2.out hm6 (by simpa using fun _ => hg))
        have HMWs := Lib.hid (HM5.out.trans hm6)
        clear hd6 hm6
        refine hK.out _ _ (by first | exact hmE | exact Mod.refl _ _ | exact (Mod.refl _ _).alloc _) ?_
        clear hK
        (try simp only [Act.put, List.setIfInBounds_toArray, List.set_cons_zero, List.set_cons_succ])
        refine wpAnyE_done (by kernel_rfl) ?_ _
        have HDs : Hid (DG w6 p (shaSt (m ++ z.take c)) buf2 N) := Lib.hid (by rw [← HB2f.out]; exact HD6.out)
        have HMs : Hid ((m ++ z.take c).length % 64 = 0) := Lib.hid (sha_fill m (z.take c) (by have h1 := HC64.out; rw [hr]; simp; omega)).2
        have HYs : Hid ((m ++ z.take c) ++ z.drop c = m ++ z) := Lib.hid (by rw [List.append_assoc, List.take_append_drop])
        have HBs : Hid (BS w6 g (.slice (some ⟨g, off + c, none⟩) (z.drop c).length (cap - c)) (z.drop c)) := Lib.hid (BS.after HZz.out hcz)
        clear HD9 HB2 HM5 HZ9 HM9 HD6 HB2f hmE HPw
        go_wp2_with fail
        go_loopw [1] (fun s1 wr => ∃ (y m' : Bytes) (buf' : Bytes) (A' : Option Addr) (cap' : Nat), s1 = .slice A' y.length cap' ∧ y.length ≤ cap' ∧ cap' ≤ maxLen ∧ Hid (m' ++ y = m ++ z) ∧ Hid (m'.length % 64 = 0) ∧ Hid (BS wr g (.slice A' y.length cap') y) ∧ Hid (DG wr p (shaSt m') buf' N) ∧ Hid (Mod [p] w wr)) (fun s _ => vlen s)
        case atStart => exact ⟨z.drop c, m ++ z.take c, buf2, some ⟨g, off + c, none⟩, cap - c, by simp, by simp; omega, by omega, HYs, HMs, HBs, HDs, HMWs⟩
        case round =>
          obtain ⟨y, m1, buf1, A1, cap1, rfl, hc3, hc4, HY, HM0, HB1, HDx, HMW⟩ := hrel
          by_cases hy : 64 ≤ y.length
          · have hyi : (64 : Int) ≤ (y.length : Int) := by omega
            obtain ⟨off, rfl⟩ : ∃ off, A1 = some ⟨g, off, none⟩ := by
              obtain ⟨off, cap', hv, _⟩ := HB1.out.at_ (by omega)
              injection hv with h1; exact ⟨off, h1⟩
            have hcap : 64 ≤ cap1 := by omega
            have hcapi : (64 : Int) ≤ (cap1 : Int) := by omega
            have hw0 : Mod [] wr wr.drew := (Mod.refl _ wr).drew
            go_wp2_with fail
            have HP0 := Lib.hid hw0
            clear hw0
            have HT := Lib.hid (BS.take (n := 64) HB1.out (by omega))
            refine wp_regionE (Mod [p]) (by kernel_rfl) ?_
            simp only [List.size_toArray, List.length_cons, List.length_nil, Nat.zero_add, Nat.reduceAdd]
            refine wpAnyE_takeL (preMod _) 0 (v := ?_) rfl (by kernel_rfl) (by kernel_rfl) (by kernel_rfl) (fun _ _ _ h => h) (Or.inl ⟨by rfl, ?_⟩) ?_
            rotate_left; (intro W hW; (try dsimp only at hW); go_simp; try with_reducible rfl)
            (try simp only [Act.put, List.setIfInBounds_toArray, List.set_cons_zero, List.set_cons_succ])
            refine wpAnyE_takeL (preMod _) 1 (v := ?_) rfl (by kernel_rfl) (by kernel_rfl) (by kernel_rfl) (fun _ _ _ h => h) (Or.inl ⟨by rfl, ?_⟩) ?_
            rotate_left; (intro W hW; (try dsimp only at hW); go_simp; try with_reducible rfl)
            (try simp only [Act.put, List.setIfInBounds_toArray, List.set_cons_zero, List.set_cons_succ])
            refine wpAnyE_takeL (preMod _) 2 (v := ?_) rfl (by kernel_rfl) (by kernel_rfl) (by kernel_rfl) (fun _ _ _ h => h) (Or.inl ⟨by rfl, ?_⟩) ?_
            rotate_left; (intro W hW; (try dsimp only at hW); go_simp; try with_reducible rfl)
            (try simp only [Act.put, List.setIfInBounds_toArray, List.set_cons_zero, List.set_cons_succ])
            refine wpAnyE_takeL (preMod _) 3 (v := ?_) rfl (by kernel_rfl) (by kernel_rfl) (by kernel_rfl) (fun _ _ _ h => h) (Or.inl ⟨by rfl, ?_⟩) ?_
            rotate_left; (intro W hW; (try dsimp only at hW); go_simp; try with_reducible rfl)
            (try simp only [Act.put, List.setIfInBounds_toArray, List.set_cons_zero, List.set_cons_succ])
            refine wpAnyE_takeL (preMod _) 5 (v := ?_) rfl (by kernel_rfl) (by kernel_rfl) (by kernel_rfl) (fun _ _ _ h => h) (Or.inl ⟨by rfl, ?_⟩) ?_
            rotate_left; (intro W hW; (try dsimp only at hW); go_simp; try with_reducible rfl)
            (try simp only [Act.put, List.setIfInBounds_toArray, List.set_cons_zero, List.set_cons_succ])
            refine wpAnyE_takeL (preMod _) 6 (v := ?_) rfl (by kernel_rfl) (by kernel_rfl) (by kernel_rfl) (fun _ _ _ h => h) (Or.inl ⟨by rfl, ?_⟩) ?_
            rotate_left; (intro W hW; (try dsimp only at hW); go_simp; try with_reducible rfl)
            (try simp only [Act.put, List.setIfInBounds_toArray, List.set_cons_zero, List.set_cons_succ])
            refine wpAnyE_ready (rs := [4]) (by kernel_rfl) (by simp) ?_
            refine AllReadyE.consL rfl (fun K hK => ?_) AllReadyE.nil
            rw [if_pos (by rfl)]
            refine opwp_load_cells rtW8 (.tmp 54) rfl rfl rfl HDx.out.state ?_
            refine hK.out _ _ (by first | exact hmE | exact Mod.refl _ _ | exact (Mod.refl _ _).alloc _) ?_
            clear hK
            (try simp only [Act.put, List.setIfInBounds_toArray, List.set_cons_zero, List.set_cons_succ])
            refine wpAnyE_ready (rs := [7]) (by kernel_rfl) (by simp) ?_
            refine AllReadyE.consL rfl (fun K hK => ?_) AllReadyE.nil
            rw [if_pos (by rfl)]
            go_simp
            go_at_call 80
            refine (piece_any (shaSt m1) (y.take 64) g _ wr.drew HT.out (by simp; omega)).mono ?_
            rintro e' w5 ⟨rfl, hm5⟩
            have hmE : Mod [p] wr.drew w5 := hm5.mono (by simp)
            have HDxnew := Lib.hid (HDx.out.mod (HP0.out.trans hm5) (by simp)); clear HDx; have HDx := HDxnew; clear HDxnew
            have HB2 := Lib.hid (RS.mod HB1.out (HP0.out.trans hm5) (by simp))
            have HM5 := Lib.hid (HMW.out.trans (hmE' hm5 HP0.out))
            clear hm5
            go_wp2_with fail
            refine hK.out _ _ (by first | exact hmE | exact Mod.refl _ _ | exact (Mod.refl _ _).alloc _) ?_
            clear hK
            (try simp only [Act.put, List.setIfInBounds_toArray, List.set_cons_zero, List.set_cons_succ])
            refine wpAnyE_takeL (preMod _) 8 (v := ?_) rfl (by kernel_rfl) (by kernel_rfl) (by kernel_rfl) (fun _ _ _ h => h) (Or.inl ⟨by rfl, ?_⟩) ?_
            rotate_left; (intro W hW; (try dsimp only at hW); go_simp; try with_reducible rfl)
            (try simp only [Act.put, List.setIfInBounds_toArray, List.set_cons_zero, List.set_cons_succ])
            refine wpAnyE_takeL (preMod _) 9 (v := ?_) rfl (by kernel_rfl) (by kernel_rfl) (by kernel_rfl) (fun _ _ _ h => h) (Or.inl ⟨by rfl, ?_⟩) ?_
            rotate_left; (intro W hW; (try dsimp only at hW); go_simp; try with_reducible rfl)
            (try simp only [Act.put, List.setIfInBounds_toArray, List.set_cons_zero, List.set_cons_succ])
            refine wpAnyE_ready (rs := [10]) (by kernel_rfl) (by simp) ?_
            refine AllReadyE.consL rfl (fun K hK => ?_) AllReadyE.nil
            rw [if_pos (by rfl)]
            refine opwp_store_dg rfl _ _ rfl (s' := pieceSt (shaSt m1) (y.take 64)) (by rfl) (by rfl) HDx.out ?_
            intro w6 hd6 hm6
            have hmE : Mod [p] _ w6 := hm6
            have HD6 := Lib.hid hd6
            have HB6 := Lib.hid (RS.mod HB2.out hm6 (by simpa using fun _ => hg))
            have HM6 := Lib.hid (HM5.out.trans hm6)
            clear hd6 hm6
            refine hK.out _ _ (by first | exact hmE | exact Mod.refl _ _ | exact (Mod.refl _ _).alloc _) ?_
            clear hK
            (try simp only [Act.put, List.setIfInBounds_toArray, List.set_cons_zero, List.set_cons_succ])
            refine wpAnyE_done (by kernel_rfl) ?_ _
            have HDn : Hid (DG w6 p (shaSt (m1 ++ y.take 64)) buf1 N) := Lib.hid (by
              rw [(sha_fill m1 (y.take 64) (by rw [HM0.out]; simp; omega)).1, restOf_full _ HM0.out, List.nil_append]; exact HD6.out)
            have HMn : Hid ((m1 ++ y.take 64).length % 64 = 0) := Lib.hid (sha_fill m1 (y.take 64) (by rw [HM0.out]; simp; omega)).2
            have HYn : Hid ((m1 ++ y.take 64) ++ y.drop 64 = m ++ z) := Lib.hid (by rw [List.append_assoc, List.take_append_drop]; exact HY.out)
            by_cases hcc : cap1 = 64
            · have HBn : Hid (BS w6 g (.slice (some ⟨g, off, none⟩) (y.drop 64).length 0) (y.drop 64)) := Lib.hid (BS.done (by omega))
              go_wp2_with fail
              exact ⟨⟨y.drop 64, m1 ++ y.take 64, buf1, some ⟨g, off, none⟩, 0, by simp, by simp; omega, by omega, HYn, HMn, HBn, HDn, HM6⟩, by simp [vlen]; omega⟩
            · have HBn : Hid (BS w6 g (.slice (some ⟨g, off + 64, none⟩) (y.drop 64).length (cap1 - 64)) (y.drop 64)) := Lib.hid (BS.after HB6.out (by omega))
              go_wp2_with fail
              exact ⟨⟨y.drop 64, m1 ++ y.take 64, buf1, some ⟨g, off + 64, none⟩, cap1 - 64, by simp, by simp; omega, by omega, HYn, HMn, HBn, HDn, HM6⟩, by simp [vlen]; omega⟩
          · have hyi : ¬ (64 : Int) ≤ (y.length : Int) := by omega
            have hmin : min (64 - 0) y.length = y.length := by omega
            go_wp2_with (first | ((with_reducible refine wpList_copy_dg rfl _ _ rfl (r := 0) (dCap := 64) hmin ?hd ?hs HDx.out HB1.out (by omega) ?_); (case hd => exact rfl); (case hs => exact rfl); intro w9 hd9 hm9; have HD9 := Lib.hid hd9; have HM9 := Lib.hid (HMW.out.trans hm9); clear hd9 hm9))
            go_end0
            exact ⟨rfl, Abs.more (r := 0) (N := N) HY.out HM0.out (by omega) HDx.out.1 (by rw [restOf_full _ HM0.out]; rfl) (by rw [List.length_append]; exact HDN.out) (by have h := HD9.out; rwa [List.take_of_length_le (by omega)] at h), HM9.out⟩
end Go.Proofs.Ytlpjeckhejbkkaa
end

section
set_option linter.unusedVariables false
set_option linter.unusedSimpArgs false
set_option maxRecDepth 20000
set_option maxHeartbeats 1600000
namespace Go.Proofs.Ytlpjeckhejbkkaa
open Go.RowKit

theorem rtDig : RowT Try.prog 142 73 := ⟨_, Try.underlying142, rfl, by kernel_rfl⟩
def z64 : Bytes := List.replicate 64 0
theorem z64_len : z64.length = 64 := by simp [z64]
def dig0 : List Value := (List.replicate 8 (0 : Int)).map uv ++ (z64.map bv ++ [.int .i64 0])
theorem builtD : Try.prog.built 142 [(0, .agg shaIV.cells.toArray)] = some (dcells shaIV z64 0).toArray := by kernel_rfl
theorem zeroDig_run (w : World) : (zeroValue 142).run Try.prog w = .ok (.agg dig0.toArray) w := zero_run (by kernel_rfl) w
theorem shaNew_any (w : World) : Calls Try.prog 59 #[] w fun e w' => ∃ p, e = .returned (.pointer (some ⟨p, 0, none⟩)) ∧ w.heap.size ≤ p ∧ Abs w' p [] ∧ Mod [] w w' := by
  go_enter Try.func59, Try.ntmps59
  go_wp2_with fail
  refine (begins_any _).mono ?_
  rintro e' w1 ⟨rfl, hm1⟩
  have HM1 := Lib.hid hm1
  clear hm1
  go_wp2_with (first | ((with_reducible refine wpList_buildC (vals := #[(0, .agg shaIV.cells.toArray)]) (cells := (dcells shaIV z64 0).toArray) rfl ?hgd ?hv builtD ?_); (case hgd => exact rfl); (case hv => exact rfl)) | ((with_reducible refine wpList_box _ rfl ?hgd (cs := dcells shaIV z64 0) ?hx ?_); (case hgd => exact rfl); (case hx => exact rfl); intro p w2 hb2 hm2 hp2 hl2; have HB2 := Lib.hid hb2; have HM2 := Lib.hid hm2; clear hb2 hm2))
  go_ret
  exact ⟨p, rfl, by have := HM1.out.size; omega, Abs.nil ⟨z64_len, HB2.out⟩, HM1.out.trans HM2.out⟩
end Go.Proofs.Ytlpjeckhejbkkaa
end

section
set_option linter.unusedVariables false
set_option linter.unusedSimpArgs false
set_option maxRecDepth 20000
set_option maxHeartbeats 1600000
namespace Go.Proofs.Ytlpjeckhejbkkaa
open Go.RowKit

/-! ### the sum -/
def b8 (x : Int) : UInt8 := UInt8.ofNat (x % 256).toNat
theorem bv_b8 (x : Int) : bv (b8 x) = .int .u8 (x % 256) := by
  have h1 : 0 ≤ x % 256 := Int.emod_nonneg _ (by omega)
  have h2 : x % 256 < 256 := Int.emod_lt_of_pos _ (by omega)
  have h3 : (x % 256).toNat % 256 = (x % 256).toNat := by omega
  simp only [bv, b8, UInt8.toNat_ofNat']
  rw [show (2 : Nat) ^ 8 = 256 from rfl, h3, Int.toNat_of_nonneg h1]
def padK (n : Nat) : Nat := (119 - n % 64) % 64
theorem padK_end (n k : Nat) (hk : k ≤ padK n) : (n + (1 + k)) % 64 = 56 ↔ k = padK n := by unfold padK at *; omega
def bitsOf (n : Nat) : Int := 8 * (n : Int)
def lenB (n : Nat) : Bytes := (List.range 8).map fun i => b8 (bitsOf n / 2 ^ (56 - 8 * i))
theorem lenB_take (n i : Nat) (h : i < 8) : (lenB n).take (i + 1) = (lenB n).take i ++ [b8 (bitsOf n / 2 ^ (56 - 8 * i))] := by
  rw [List.take_add_one, lenB, List.getElem?_map, List.getElem?_range h]; rfl
def padOf (n : Nat) : Bytes := (128 :: List.replicate (padK n) 0) ++ lenB n
def word4B (x : Int) : Bytes := [b8 (x / 16777216), b8 (x / 65536), b8 (x / 256), b8 x]
def St8.bytes (s : St8) : Bytes := word4B s.a ++ (word4B s.b ++ (word4B s.c ++ (word4B s.d ++ (word4B s.e ++ (word4B s.f ++ (word4B s.g ++ word4B s.h))))))
theorem St8.bytes_len (s : St8) : s.bytes.length = 32 := rfl
def shaOf (m : Bytes) : GHash := ⟨(shaSt (m ++ padOf m.length)).bytes, St8.bytes_len _⟩
def word4V (x : Int) : List Value := [.int .u8 (x / 16777216 % 256), .int .u8 (x / 65536 % 256), .int .u8 (x / 256 % 256), .int .u8 (x % 256)]
def St8.bytesV (s : St8) : List Value := word4V s.a ++ (word4V s.b ++ (word4V s.c ++ (word4V s.d ++ (word4V s.e ++ (word4V s.f ++ (word4V s.g ++ word4V s.h))))))
theorem word4V_eq (x : Int) : word4V x = (word4B x).map bv := by
  simp only [word4V, word4B, List.map_cons, List.map_nil, bv_b8]
theorem St8.bytesV_eq (s : St8) : s.bytesV = s.bytes.map bv := by
  simp only [St8.bytesV, St8.bytes, word4V_eq, List.map_append]
def mixedV (s : St8) (i : Nat) : List Value := s.bytesV.take (4 * i) ++ List.replicate (32 - 4 * i) (.int .u8 0)
theorem OwnB.one (w : World) {xi : Int} {x : UInt8} (hx : xi = x.toNat) : OwnB (w.alloc (.cells #[.int .u8 xi] 5)) (.slice (some ⟨w.heap.size, 0, none⟩) 1 1) [x] := by
  subst hx
  exact ⟨rfl, .inr ⟨w.heap.size, 1, #[bv x], rfl, Nat.zero_le _, heap_alloc_new w _, Nat.le_refl _, by decide, rfl, rfl⟩⟩
theorem DG.stateC {w : World} {p n : Nat} {s : St8} {buf : Bytes} (h : DG w p s buf n) : ∀ (i : Nat) (u : Value), s.cells[i]? = some u → w.cell? ⟨p, 0 + i, none⟩ = some u := h.state
theorem wpList_index8 {ops : Array Oper} {rest : List Oper} {op : Oper} {a : Act} {w : World} {Q : Exit → Act → World → Prop} (x y : Operand) (ho : op.op = .index 138 x y) (hgd : Region.wanted op (yielded ops a.tmps) = true)
    {s : St8} {i : Nat} {v : Int} (hx : a.eval x = .agg s.cells.toArray) (hy : a.eval y = .int .i64 (i : Int)) (hi : i < 8) (hv : s.cells[i]? = some (uv v))
    (h : wpList Try.prog ops Q rest (a.put op.dst (uv v)) w) : wpList Try.prog ops Q (op :: rest) a w := by
  refine BigFrame.wpList_want hgd fun K hK => ?_
  unfold Oper.wp execOp
  simp only [ho, hx, hy]
  have hor : i = 0 ∨ i = 1 ∨ i = 2 ∨ i = 3 ∨ i = 4 ∨ i = 5 ∨ i = 6 ∨ i = 7 := by omega
  have h2 := hK _ _ h
  rcases hor with rfl | rfl | rfl | rfl | rfl | rfl | rfl | rfl <;> (injection hv with hv; injection hv with _ hv; subst hv; go_simp; exact h2)
theorem grow_step {w3 wr w5 : World} {o : Obj} {v v' : Value} (hm : Mod [] w3 wr) (hf : ∀ b ∈ blks v, w3.heap.size ≤ b) (hm5 : Mod (blks v) (wr.alloc o) w5) (hf5 : ∀ b ∈ blks v', b ∈ blks v ∨ b = (wr.alloc o).heap.size) : Mod [] w3 w5 ∧ ∀ b ∈ blks v', w3.heap.size ≤ b := by
  refine ⟨(hm.alloc o).then hm5 (fun b hb => .inr (hf b hb)), fun b hb => ?_⟩
  rcases hf5 b hb with h | h
  · exact hf b h
  · rw [h]; exact (hm.alloc o).size
theorem shaSum_any (p : Nat) (m : Bytes) (w : World) (hA : Abs w p m) (hl : m.length < 100000000000000) :
    Calls Try.prog 61 #[.pointer (some ⟨p, 0, none⟩)] w fun e w' => e = .returned (shaOf m).val ∧ Mod [] w w' := by
  obtain ⟨buf, hd, hbuf⟩ := hA
  have HD := Lib.hid hd
  have HBF := Lib.hid hbuf
  have hcn := hd.cellN
  clear hd hbuf
  have hn8 : IntKind.u64.wrap (m.length : Int) = (m.length : Int) := by rw [IntKind.wrap_u64]; omega
  have hbits : 8 * (m.length : Int) = bitsOf m.length := rfl
  go_enter Try.func61, Try.ntmps61
  go_upto_region 1 with fail
  have HB1 := Lib.hid (Blk.new w 46 GHash.zero.cells.toArray)
  have HM1 := Lib.hid ((Mod.refl [] w).alloc (.cells GHash.zero.cells.toArray 46))
  obtain ⟨q2, hq2⟩ : ∃ q, w.heap.size = q := ⟨_, rfl⟩
  obtain ⟨w1, hw1⟩ : ∃ w1, w.alloc (.cells GHash.zero.cells.toArray 46) = w1 := ⟨_, rfl⟩
  change Code.wp _ _ _ _ (w.alloc (.cells GHash.zero.cells.toArray 46))
  rw [hw1] at HB1 HM1 ⊢
  rw [hq2] at HB1 ⊢
  have HQ2 : Hid (w.heap.size = q2) := Lib.hid hq2
  clear hw1 hq2
  have HD1 := Lib.hid (HD.out.mod HM1.out (by simp))
  have hcn := HD1.out.cellN
  clear HD
  go_upto_region 2 with (first | ((with_reducible refine wpList_load_blk rtDig _ rfl ?hgd ?hx (cs := dcells (shaSt m) buf m.length) HD1.out.blk HD1.out.len ?_); (case hgd => exact rfl); (case hx => exact rfl)) | ((with_reducible refine wpList_alloc zeroDig_run rfl ?hgd ?_); (case hgd => exact rfl); intro q3 w2 hb2 hm2 hq2 hl2; have HB2 := Lib.hid hb2; have HM2 := Lib.hid hm2; clear hb2 hm2) | ((with_reducible refine wpList_store_blk rtDig (cells := dcells (shaSt m) buf m.length) _ _ rfl ?hgd ?hx ?hy HB2.out HD1.out.len ?hold (dcells_one _ _ _) ?_); (case hgd => exact rfl); (case hx => exact rfl); (case hy => exact rfl); (case hold => exact rfl); intro w3 hb3 hm3; have HB3 := Lib.hid hb3; have HM3 := Lib.hid hm3; clear hb3 hm3))
  have hm13 : Mod [] w1 w3 := HM2.out.then HM3.out (by simp; omega)
  have HM13 := Lib.hid hm13
  have HW3 := Lib.hid (HM1.out.trans hm13)
  have HQ3 : Hid (q2 < q3 ∧ w.heap.size ≤ q3) := Lib.hid ⟨by have := HB1.out.lt; omega, by have := HM1.out.size; omega⟩
  have HB13 := Lib.hid (HB1.out.mod hm13 (by simp))
  have HD3 := Lib.hid (HD1.out.mod hm13 (by simp))
  have HA3 : Hid (Abs w3 q3 m) := Lib.hid ⟨buf, ⟨HD1.out.1, HB3.out⟩, HBF.out⟩
  have hcn3 := HD3.out.cellN
  clear hcn hm13 HB1 HM1 HM2 HB2 HM3 HB3 HM13 HD1 hq2 hl2
  go_upto_region 4 with fail
  have HO0 : Hid (OwnB (w3.alloc (.cells #[.int .u8 128] 5)) (.slice (some ⟨w3.heap.size, 0, none⟩) 1 1) (128 :: List.replicate 0 0)) := Lib.hid (OwnB.one w3 rfl)
  have HM0 : Hid (Mod [] w3 (w3.alloc (.cells #[.int .u8 128] 5))) := Lib.hid ((Mod.refl [] w3).alloc _)
  go_loopw [5] (fun s5 wr => ∃ (k L cap : Nat) (A : Option Addr), s5 = .slice A L cap ∧ Hid (L = 1 + k) ∧ Hid (k ≤ padK m.length) ∧ L ≤ 64 ∧ Hid (OwnB wr (.slice A L cap) (128 :: List.replicate k 0)) ∧ Hid (Mod [] w3 wr) ∧ Hid (∀ b ∈ blks (.slice A L cap), w3.heap.size ≤ b)) (fun s _ => 100 - vlen s)
  case atStart => exact ⟨0, 1, 1, _, rfl, Lib.hid rfl, Lib.hid (Nat.zero_le _), by omega, HO0, HM0, Lib.hid (by intro b hb; simp [blks, Value.ownBlock] at hb; omega)⟩
  case round =>
    obtain ⟨k, L, cap, A, rfl, HL, HK, hL64, HO, HM, HF⟩ := hrel
    have hcnr : wr.cell? ⟨p, 72, none⟩ = some (.int .i64 m.length) := (HM.out.cell (p := ⟨p, 72, none⟩) HD3.out.lt (by simp)).trans hcn3
    clear HO0 HM0 hcn3
    by_cases hk : k = padK m.length
    · have h56 : ((m.length : Int) + (L : Int)) % 64 = 56 := by have h1 := HL.out; have h2 := (padK_end m.length k HK.out).2 hk; omega
      go_wp2_with fail
      clear h56 hcnr
      have HPre : Hid (OwnB wr (.slice A L cap) ((128 :: List.replicate (padK m.length) 0) ++ (lenB m.length).take 0)) := Lib.hid (by rw [← hk, List.take_zero, List.append_nil]; exact HO.out)
      have hL65 : L + 0 ≤ 64 := hL64
      go_loopw [6, 5] (fun s6 s5 wq => ∃ (i M cap' : Nat) (A' : Option Addr) (x : Int), s6 = .int .i64 x ∧ s5 = .slice A' M cap' ∧ Hid (x = 56 - 8 * (i : Int)) ∧ i ≤ 8 ∧ Hid (M = L + i) ∧ Hid (OwnB wq (.slice A' M cap') ((128 :: List.replicate (padK m.length) 0) ++ (lenB m.length).take i)) ∧ Hid (Mod [] w3 wq) ∧ Hid (∀ b ∈ blks (.slice A' M cap'), w3.heap.size ≤ b)) (fun _ s _ => 100 - vlen s)
      case atStart => exact ⟨0, L, cap, A, 56, rfl, rfl, Lib.hid rfl, by omega, Lib.hid rfl, HPre, HM, HF⟩
      case round =>
        obtain ⟨i, M, cap2, A2, x, rfl, rfl, HX, hi8, HMi, HO2, HM2, HF2⟩ := hrel
        clear HPre HO HF HM
        by_cases hi : i < 8
        · have hx0 : 0 ≤ x := by have := HX.out; omega
          have hx56 : x ≤ 56 := by have := HX.out; omega
          have HXN : Hid (x.toNat = 56 - 8 * i) := Lib.hid (by have := HX.out; omega)
          have HS := Lib.hid (bs_one wr 5 (xi := bitsOf m.length / 2 ^ x.toNat % 256) (x := b8 (bitsOf m.length / 2 ^ x.toNat)) (by have := bv_b8 (bitsOf m.length / 2 ^ x.toNat); injection this with _ h; exact h.symm))
          have HOx := Lib.hid (HO2.out.mod ((Mod.refl [] wr).alloc (.cells #[.int .u8 (bitsOf m.length / 2 ^ x.toNat % 256)] 5)) (by simp))
          go_wp2_with (at_builtin; refine wpList_append_bytes rfl _ _ rfl HOx.out rfl HS.out rfl ?_ ?hz; intro A1 n1 cap1 w5 hown5 hn5 hm5 hf5; have HO5 := Lib.hid hown5; have HN5 := hn5; have HM5 := Lib.hid hm5; have HF5 := hf5; clear hown5 hn5 hm5 hf5)
          case hz => (have h1 := HL.out; have h2 : (lenB m.length).length = 8 := (by simp [lenB]); simp; omega)
          have hs := grow_step HM2.out HF2.out HM5.out HF5.out
          have h8 : (lenB m.length).length = 8 := by simp [lenB]
          have hn5 : n1 = M + 1 := by have h := HN5.out; have h1 := HL.out; have h2 := HMi.out; simp at h; omega
          have hM : M < 80 := by have h1 := HMi.out; omega
          exact ⟨⟨i + 1, n1, cap1, A1, x - 8, rfl, rfl, Lib.hid (by have := HX.out; omega), by omega, Lib.hid (by have h1 := HMi.out; omega), Lib.hid (by have h := HO5.out; rw [List.append_assoc, HXN.out, ← lenB_take _ _ hi] at h; exact h), Lib.hid hs.1, Lib.hid hs.2⟩, by simp [vlen]; omega⟩
        · have hx0 : ¬ 0 ≤ x := by have := HX.out; omega
          obtain rfl : i = 8 := by omega
          have HOp : Hid (OwnB wr (.slice A2 M cap2) (padOf m.length)) := Lib.hid (by have h := HO2.out; rwa [List.take_of_length_le (by simp [lenB])] at h)
          have hpl : (padOf m.length).length ≤ 200 := by simp [padOf, lenB, padK]; omega
          obtain ⟨gp, hbp, hgp⟩ := HOp.out.bs
          have hgp3 : w3.heap.size ≤ gp := HF2.out gp (hgp (by simp [padOf]))
          have HBP := Lib.hid hbp
          have hq3 : q3 < w3.heap.size := HA3.out.lt
          have HA3w := Lib.hid (HA3.out.mod HM2.out (by simp))
          have HB2w := Lib.hid (HB13.out.mod HM2.out (by simp))
          have HMw := Lib.hid (HW3.out.trans HM2.out)
          clear HO2 HOp hbp hgp HA3 HB13 HW3 HM2 HF2
          go_wp2_with fail
          refine (write_any q3 gp (padOf m.length) m _ _ HA3w.out HBP.out (by omega) (by omega)).mono ?_
          rintro e' w6 ⟨rfl, ha6, hm6⟩
          have HA6 := Lib.hid ha6
          have HB6 := Lib.hid (HB2w.out.mod hm6 (by have := HQ3.out; simp; omega))
          have HM6 := Lib.hid (HMw.out.then hm6 (by have := HQ3.out; simp; omega))
          clear ha6 hm6 HA3w HB2w HMw HBP
          go_upto_region 12 with fail
          obtain ⟨buf6, hd6, _⟩ := HA6.out
          obtain ⟨S, hS⟩ : ∃ S, shaSt (m ++ padOf m.length) = S := ⟨_, rfl⟩
          rw [hS] at hd6
          have HSS := Lib.hid hS
          have HB7 := Lib.hid (Blk.new w6 46 GHash.zero.cells.toArray)
          have hm7 : Mod [] w6 (w6.alloc (.cells GHash.zero.cells.toArray 46)) := (Mod.refl [] w6).alloc _
          have HD7 := Lib.hid (hd6.mod hm7 (by simp))
          have HB6w := Lib.hid (HB6.out.mod hm7 (by simp))
          have HM7 := Lib.hid (HM6.out.trans hm7)
          have HQ7 : Hid (w.heap.size ≤ w6.heap.size ∧ q2 < w6.heap.size) := Lib.hid ⟨HM6.out.size, HB6.out.lt⟩
          obtain ⟨q7, hq7⟩ : ∃ q, w6.heap.size = q := ⟨_, rfl⟩
          obtain ⟨w7, hw7⟩ : ∃ w7, w6.alloc (.cells GHash.zero.cells.toArray 46) = w7 := ⟨_, rfl⟩
          change Code.wp _ _ _ _ (w6.alloc (.cells GHash.zero.cells.toArray 46))
          rw [hw7] at HB7 HD7 HM7 HB6w ⊢
          rw [hq7] at HB7 HQ7 ⊢
          clear hw7 hq7 hm7 hd6 hS HB6 HM6 HA6 hcn hn8 hbits
          go_wp2_with (first | ((with_reducible refine wpList_load_cells rtW8 _ rfl ?hgd ?hx (cs := S.cells) rfl HD7.out.stateC ?_); (case hgd => exact rfl); (case hx => exact rfl)))
          go_loopw [47] (fun s47 wr => ∃ i : Nat, s47 = .int .i64 (i : Int) ∧ i ≤ 8 ∧ Hid (Blk wr q7 46 (mixedV S i).toArray) ∧ Hid (Mod [q7] w7 wr)) (fun s _ => 8 - (intOf s).toNat)
          case atStart => exact ⟨0, rfl, by omega, HB7, Lib.hid (Mod.refl _ _)⟩
          case round =>
            obtain ⟨i, rfl, hi, HBr, HMr⟩ := hrel
            clear HB7 HD7
            by_cases hi8 : i < 8
            · have hor : i = 0 ∨ i = 1 ∨ i = 2 ∨ i = 3 ∨ i = 4 ∨ i = 5 ∨ i = 6 ∨ i = 7 := by omega
              clear hi8
              rcases hor with rfl | rfl | rfl | rfl | rfl | rfl | rfl | rfl
              · have c0 := HBr.out.cell 0
                have c1 := HBr.out.cell 1
                have c2 := HBr.out.cell 2
                have c3 := HBr.out.cell 3
                rw [show (mixedV S 0).toArray[0]? = some (.int .u8 0) from rfl] at c0
                rw [show (mixedV S 0).toArray[1]? = some (.int .u8 0) from rfl] at c1
                rw [show (mixedV S 0).toArray[2]? = some (.int .u8 0) from rfl] at c2
                rw [show (mixedV S 0).toArray[3]? = some (.int .u8 0) from rfl] at c3
                have f0 := HBr.out.frozen 0
                have f1 := HBr.out.frozen 1
                have f2 := HBr.out.frozen 2
                have f3 := HBr.out.frozen 3
                have HBn : Hid (Blk ((((wr.setCell ⟨q7, 0, none⟩ (.int .u8 (S.a / 16777216 % 256))).setCell ⟨q7, 1, none⟩ (.int .u8 (S.a / 65536 % 256))).setCell ⟨q7, 2, none⟩ (.int .u8 (S.a / 256 % 256))).setCell ⟨q7, 3, none⟩ (.int .u8 (S.a % 256))) q7 46 (mixedV S (0 + 1)).toArray) := Lib.hid ((((HBr.out.set_ 0 _).set_ 1 _).set_ 2 _).set_ 3 _)
                have HMn : Hid (Mod [q7] w7 ((((wr.setCell ⟨q7, 0, none⟩ (.int .u8 (S.a / 16777216 % 256))).setCell ⟨q7, 1, none⟩ (.int .u8 (S.a / 65536 % 256))).setCell ⟨q7, 2, none⟩ (.int .u8 (S.a / 256 % 256))).setCell ⟨q7, 3, none⟩ (.int .u8 (S.a % 256)))) := Lib.hid ((((HMr.out.setCell _ (by simp) _).setCell _ (by simp) _).setCell _ (by simp) _).setCell _ (by simp) _)
                go_wp2_with (first | ((with_reducible refine wpList_index8 _ _ rfl ?hgd (s := S) (i := 0) (v := S.a) ?hx ?hy (by decide) ?hv ?_); (case hgd => exact rfl); (case hx => exact rfl); (case hy => exact rfl); (case hv => exact rfl)))
                exact ⟨⟨0 + 1, rfl, by omega, HBn, HMn⟩, by simp [intOf]⟩
              · have c0 := HBr.out.cell 4
                have c1 := HBr.out.cell 5
                have c2 := HBr.out.cell 6
                have c3 := HBr.out.cell 7
                rw [show (mixedV S 1).toArray[4]? = some (.int .u8 0) from rfl] at c0
                rw [show (mixedV S 1).toArray[5]? = some (.int .u8 0) from rfl] at c1
                rw [show (mixedV S 1).toArray[6]? = some (.int .u8 0) from rfl] at c2
                rw [show (mixedV S 1).toArray[7]? = some (.int .u8 0) from rfl] at c3
                have f0 := HBr.out.frozen 4
                have f1 := HBr.out.frozen 5
                have f2 := HBr.out.frozen 6
                have f3 := HBr.out.frozen 7
                have HBn : Hid (Blk ((((wr.setCell ⟨q7, 4, none⟩ (.int .u8 (S.b / 16777216 % 256))).setCell ⟨q7, 5, none⟩ (.int .u8 (S.b / 65536 % 256))).setCell ⟨q7, 6, none⟩ (.int .u8 (S.b / 256 % 256))).setCell ⟨q7, 7, none⟩ (.int .u8 (S.b % 256))) q7 46 (mixedV S (1 + 1)).toArray) := Lib.hid ((((HBr.out.set_ 4 _).set_ 5 _).set_ 6 _).set_ 7 _)
                have HMn : Hid (Mod [q7] w7 ((((wr.setCell ⟨q7, 4, none⟩ (.int .u8 (S.b / 16777216 % 256))).setCell ⟨q7, 5, none⟩ (.int .u8 (S.b / 65536 % 256))).setCell ⟨q7, 6, none⟩ (.int .u8 (S.b / 256 % 256))).setCell ⟨q7, 7, none⟩ (.int .u8 (S.b % 256)))) := Lib.hid ((((HMr.out.setCell _ (by simp) _).setCell _ (by simp) _).setCell _ (by simp) _).setCell _ (by simp) _)
                go_wp2_with (first | ((with_reducible refine wpList_index8 _ _ rfl ?hgd (s := S) (i := 1) (v := S.b) ?hx ?hy (by decide) ?hv ?_); (case hgd => exact rfl); (case hx => exact rfl); (case hy => exact rfl); (case hv => exact rfl)))
                exact ⟨⟨1 + 1, rfl, by omega, HBn, HMn⟩, by simp [intOf]⟩
              · have c0 := HBr.out.cell 8
                have c1 := HBr.out.cell 9
                have c2 := HBr.out.cell 10
                have c3 := HBr.out.cell 11
                rw [show (mixedV S 2).toArray[8]? = some (.int .u8 0) from rfl] at c0
                rw [show (mixedV S 2).toArray[9]? = some (.int .u8 0) from rfl] at c1
                rw [show (mixedV S 2).toArray[10]? = some (.int .u8 0) from rfl] at c2
                rw [show (mixedV S 2).toArray[11]? = some (.int .u8 0) from rfl] at c3
                have f0 := HBr.out.frozen 8
                have f1 := HBr.out.frozen 9
                have f2 := HBr.out.frozen 10
                have f3 := HBr.out.frozen 11
                have HBn : Hid (Blk ((((wr.setCell ⟨q7, 8, none⟩ (.int .u8 (S.c / 16777216 % 256))).setCell ⟨q7, 9, none⟩ (.int .u8 (S.c / 65536 % 256))).setCell ⟨q7, 10, none⟩ (.int .u8 (S.c / 256 % 256))).setCell ⟨q7, 11, none⟩ (.int .u8 (S.c % 256))) q7 46 (mixedV S (2 + 1)).toArray) := Lib.hid ((((HBr.out.set_ 8 _).set_ 9 _).set_ 10 _).set_ 11 _)
                have HMn : Hid (Mod [q7] w7 ((((wr.setCell ⟨q7, 8, none⟩ (.int .u8 (S.c / 16777216 % 256))).setCell ⟨q7, 9, none⟩ (.int .u8 (S.c / 65536 % 256))).setCell ⟨q7, 10, none⟩ (.int .u8 (S.c / 256 % 256))).setCell ⟨q7, 11, none⟩ (.int .u8 (S.c % 256)))) := Lib.hid ((((HMr.out.setCell _ (by simp) _).setCell _ (by simp) _).setCell _ (by simp) _).setCell _ (by simp) _)
                go_wp2_with (first | ((with_reducible refine wpList_index8 _ _ rfl ?hgd (s := S) (i := 2) (v := S.c) ?hx ?hy (by decide) ?hv ?_); (case hgd => exact rfl); (case hx => exact rfl); (case hy => exact rfl); (case hv => exact rfl)))
                exact ⟨⟨2 + 1, rfl, by omega, HBn, HMn⟩, by simp [intOf]⟩
              · have c0 := HBr.out.cell 12
                have c1 := HBr.out.cell 13
                have c2 := HBr.out.cell 14
                have c3 := HBr.out.cell 15
                rw [show (mixedV S 3).toArray[12]? = some (.int .u8 0) from rfl] at c0
                rw [show (mixedV S 3).toArray[13]? = some (.int .u8 0) from rfl] at c1
                rw [show (mixedV S 3).toArray[14]? = some (.int .u8 0) from rfl] at c2
                rw [show (mixedV S 3).toArray[15]? = some (.int .u8 0) from rfl] at c3
                have f0 := HBr.out.frozen 12
                have f1 := HBr.out.frozen 13
                have f2 := HBr.out.frozen 14
                have f3 := HBr.out.frozen 15
                have HBn : Hid (Blk ((((wr.setCell ⟨q7, 12, none⟩ (.int .u8 (S.d / 16777216 % 256))).setCell ⟨q7, 13, none⟩ (.int .u8 (S.d / 65536 % 256))).setCell ⟨q7, 14, none⟩ (.int .u8 (S.d / 256 % 256))).setCell ⟨q7, 15, none⟩ (.int .u8 (S.d % 256))) q7 46 (mixedV S (3 + 1)).toArray) := Lib.hid ((((HBr.out.set_ 12 _).set_ 13 _).set_ 14 _).set_ 15 _)
                have HMn : Hid (Mod [q7] w7 ((((wr.setCell ⟨q7, 12, none⟩ (.int .u8 (S.d / 16777216 % 256))).setCell ⟨q7, 13, none⟩ (.int .u8 (S.d / 65536 % 256))).setCell ⟨q7, 14, none⟩ (.int .u8 (S.d / 256 % 256))).setCell ⟨q7, 15, none⟩ (.int .u8 (S.d % 256)))) := Lib.hid ((((HMr.out.setCell _ (by simp) _).setCell _ (by simp) _).setCell _ (by simp) _).setCell _ (by simp) _)
                go_wp2_with (first | ((with_reducible refine wpList_index8 _ _ rfl ?hgd (s := S) (i := 3) (v := S.d) ?hx ?hy (by decide) ?hv ?_); (case hgd => exact rfl); (case hx => exact rfl); (case hy => exact rfl); (case hv => exact rfl)))
                exact ⟨⟨3 + 1, rfl, by omega, HBn, HMn⟩, by simp [intOf]⟩
              · have c0 := HBr.out.cell 16
                have c1 := HBr.out.cell 17
                have c2 := HBr.out.cell 18
                have c3 := HBr.out.cell 19
                rw [show (mixedV S 4).toArray[16]? = some (.int .u8 0) from rfl] at c0
                rw [show (mixedV S 4).toArray[17]? = some (.int .u8 0) from rfl] at c1
                rw [show (mixedV S 4).toArray[18]? = some (.int .u8 0) from rfl] at c2
                rw [show (mixedV S 4).toArray[19]? = some (.int .u8 0) from rfl] at c3
                have f0 := HBr.out.frozen 16
                have f1 := HBr.out.frozen 17
                have f2 := HBr.out.frozen 18
                have f3 := HBr.out.frozen 19
                have HBn : Hid (Blk ((((wr.setCell ⟨q7, 16, none⟩ (.int .u8 (S.e / 16777216 % 256))).setCell ⟨q7, 17, none⟩ (.int .u8 (S.e / 65536 % 256))).setCell ⟨q7, 18, none⟩ (.int .u8 (S.e / 256 % 256))).setCell ⟨q7, 19, none⟩ (.int .u8 (S.e % 256))) q7 46 (mixedV S (4 + 1)).toArray) := Lib.hid ((((HBr.out.set_ 16 _).set_ 17 _).set_ 18 _).set_ 19 _)
                have HMn : Hid (Mod [q7] w7 ((((wr.setCell ⟨q7, 16, none⟩ (.int .u8 (S.e / 16777216 % 256))).setCell ⟨q7, 17, none⟩ (.int .u8 (S.e / 65536 % 256))).setCell ⟨q7, 18, none⟩ (.int .u8 (S.e / 256 % 256))).setCell ⟨q7, 19, none⟩ (.int .u8 (S.e % 256)))) := Lib.hid ((((HMr.out.setCell _ (by simp) _).setCell _ (by simp) _).setCell _ (by simp) _).setCell _ (by simp) _)
                go_wp2_with (first | ((with_reducible refine wpList_index8 _ _ rfl ?hgd (s := S) (i := 4) (v := S.e) ?hx ?hy (by decide) ?hv ?_); (case hgd => exact rfl); (case hx => exact rfl); (case hy => exact rfl); (case hv => exact rfl)))
                exact ⟨⟨4 + 1, rfl, by omega, HBn, HMn⟩, by simp [intOf]⟩
              · have c0 := HBr.out.cell 20
                have c1 := HBr.out.cell 21
                have c2 := HBr.out.cell 22
                have c3 := HBr.out.cell 23
                rw [show (mixedV S 5).toArray[20]? = some (.int .u8 0) from rfl] at c0
                rw [show (mixedV S 5).toArray[21]? = some (.int .u8 0) from rfl] at c1
                rw [show (mixedV S 5).toArray[22]? = some (.int .u8 0) from rfl] at c2
                rw [show (mixedV S 5).toArray[23]? = some (.int .u8 0) from rfl] at c3
                have f0 := HBr.out.frozen 20
                have f1 := HBr.out.frozen 21
                have f2 := HBr.out.frozen 22
                have f3 := HBr.out.frozen 23
                have HBn : Hid (Blk ((((wr.setCell ⟨q7, 20, none⟩ (.int .u8 (S.f / 16777216 % 256))).setCell ⟨q7, 21, none⟩ (.int .u8 (S.f / 65536 % 256))).setCell ⟨q7, 22, none⟩ (.int .u8 (S.f / 256 % 256))).setCell ⟨q7, 23, none⟩ (.int .u8 (S.f % 256))) q7 46 (mixedV S (5 + 1)).toArray) := Lib.hid ((((HBr.out.set_ 20 _).set_ 21 _).set_ 22 _).set_ 23 _)
                have HMn : Hid (Mod [q7] w7 ((((wr.setCell ⟨q7, 20, none⟩ (.int .u8 (S.f / 16777216 % 256))).setCell ⟨q7, 21, none⟩ (.int .u8 (S.f / 65536 % 256))).setCell ⟨q7, 22, none⟩ (.int .u8 (S.f / 256 % 256))).setCell ⟨q7, 23, none⟩ (.int .u8 (S.f % 256)))) := Lib.hid ((((HMr.out.setCell _ (by simp) _).setCell _ (by simp) _).setCell _ (by simp) _).setCell _ (by simp) _)
                go_wp2_with (first | ((with_reducible refine wpList_index8 _ _ rfl ?hgd (s := S) (i := 5) (v := S.f) ?hx ?hy (by decide) ?hv ?_); (case hgd => exact rfl); (case hx => exact rfl); (case hy => exact rfl); (case hv => exact rfl)))
                exact ⟨⟨5 + 1, rfl, by omega, HBn, HMn⟩, by simp [intOf]⟩
              · have c0 := HBr.out.cell 24
                have c1 := HBr.out.cell 25
                have c2 := HBr.out.cell 26
                have c3 := HBr.out.cell 27
                rw [show (mixedV S 6).toArray[24]? = some (.int .u8 0) from rfl] at c0
                rw [show (mixedV S 6).toArray[25]? = some (.int .u8 0) from rfl] at c1
                rw [show (mixedV S 6).toArray[26]? = some (.int .u8 0) from rfl] at c2
                rw [show (mixedV S 6).toArray[27]? = some (.int .u8 0) from rfl] at c3
                have f0 := HBr.out.frozen 24
                have f1 := HBr.out.frozen 25
                have f2 := HBr.out.frozen 26
                have f3 := HBr.out.frozen 27
                have HBn : Hid (Blk ((((wr.setCell ⟨q7, 24, none⟩ (.int .u8 (S.g / 16777216 % 256))).setCell ⟨q7, 25, none⟩ (.int .u8 (S.g / 65536 % 256))).setCell ⟨q7, 26, none⟩ (.int .u8 (S.g / 256 % 256))).setCell ⟨q7, 27, none⟩ (.int .u8 (S.g % 256))) q7 46 (mixedV S (6 + 1)).toArray) := Lib.hid ((((HBr.out.set_ 24 _).set_ 25 _).set_ 26 _).set_ 27 _)
                have HMn : Hid (Mod [q7] w7 ((((wr.setCell ⟨q7, 24, none⟩ (.int .u8 (S.g / 16777216 % 256))).setCell ⟨q7, 25, none⟩ (.int .u8 (S.g / 65536 % 256))).setCell ⟨q7, 26, none⟩ (.int .u8 (S.g / 256 % 256))).setCell ⟨q7, 27, none⟩ (.int .u8 (S.g % 256)))) := Lib.hid ((((HMr.out.setCell _ (by simp) _).setCell _ (by simp) _).setCell _ (by simp) _).setCell _ (by simp) _)
                go_wp2_with (first | ((with_reducible refine wpList_index8 _ _ rfl ?hgd (s := S) (i := 6) (v := S.g) ?hx ?hy (by decide) ?hv ?_); (case hgd => exact rfl); (case hx => exact rfl); (case hy => exact rfl); (case hv => exact rfl)))
                exact ⟨⟨6 + 1, rfl, by omega, HBn, HMn⟩, by simp [intOf]⟩
              · have c0 := HBr.out.cell 28
                have c1 := HBr.out.cell 29
                have c2 := HBr.out.cell 30
                have c3 := HBr.out.cell 31
                rw [show (mixedV S 7).toArray[28]? = some (.int .u8 0) from rfl] at c0
                rw [show (mixedV S 7).toArray[29]? = some (.int .u8 0) from rfl] at c1
                rw [show (mixedV S 7).toArray[30]? = some (.int .u8 0) from rfl] at c2
                rw [show (mixedV S 7).toArray[31]? = some (.int .u8 0) from rfl] at c3
                have f0 := HBr.out.frozen 28
                have f1 := HBr.out.frozen 29
                have f2 := HBr.out.frozen 30
                have f3 := HBr.out.frozen 31
                have HBn : Hid (Blk ((((wr.setCell ⟨q7, 28, none⟩ (.int .u8 (S.h / 16777216 % 256))).setCell ⟨q7, 29, none⟩ (.int .u8 (S.h / 65536 % 256))).setCell ⟨q7, 30, none⟩ (.int .u8 (S.h / 256 % 256))).setCell ⟨q7, 31, none⟩ (.int .u8 (S.h % 256))) q7 46 (mixedV S (7 + 1)).toArray) := Lib.hid ((((HBr.out.set_ 28 _).set_ 29 _).set_ 30 _).set_ 31 _)
                have HMn : Hid (Mod [q7] w7 ((((wr.setCell ⟨q7, 28, none⟩ (.int .u8 (S.h / 16777216 % 256))).setCell ⟨q7, 29, none⟩ (.int .u8 (S.h / 65536 % 256))).setCell ⟨q7, 30, none⟩ (.int .u8 (S.h / 256 % 256))).setCell ⟨q7, 31, none⟩ (.int .u8 (S.h % 256)))) := Lib.hid ((((HMr.out.setCell _ (by simp) _).setCell _ (by simp) _).setCell _ (by simp) _).setCell _ (by simp) _)
                go_wp2_with (first | ((with_reducible refine wpList_index8 _ _ rfl ?hgd (s := S) (i := 7) (v := S.h) ?hx ?hy (by decide) ?hv ?_); (case hgd => exact rfl); (case hx => exact rfl); (case hy => exact rfl); (case hv => exact rfl)))
                exact ⟨⟨7 + 1, rfl, by omega, HBn, HMn⟩, by simp [intOf]⟩
            · have hii : ¬ (i : Int) < 8 := by omega
              obtain rfl : i = 8 := by omega
              have HBe : Hid (Blk wr q7 46 S.bytesV.toArray) := HBr
              have HB6r := Lib.hid (HB6w.out.mod HMr.out (by have := HQ7.out; simp; omega))
              have HMz := Lib.hid (HM7.out.then HMr.out (by have := HQ7.out; simp; omega))
              have hob : ∀ u ∈ S.bytesV, u.oneCell' = true := by rw [S.bytesV_eq]; exact bv_one _
              go_wp2_with (first | ((with_reducible refine wpList_load_blk rtHash _ rfl ?hgd ?hx (cs := S.bytesV) HBe.out rfl ?_); (case hgd => exact rfl); (case hx => exact rfl)) | ((with_reducible refine wpList_store_blk rtHash (cells := S.bytesV) _ _ rfl ?hgd ?hx ?hy HB6r.out rfl ?hold hob ?_); (case hgd => exact rfl); (case hx => exact rfl); (case hy => exact rfl); (case hold => exact rfl); intro w9 hb9 hm9; have HB9 := Lib.hid hb9; have HM9 := Lib.hid (HMz.out.then hm9 (by have := HQ2.out; simp; omega))))
              exact bodyPost_ret (results_row rtHash rfl rfl HB9.out rfl) rfl ⟨by rw [S.bytesV_eq, ← HSS.out]; rfl, HM9.out⟩
    · have h56 : ¬ ((m.length : Int) + (L : Int)) % 64 = 56 := by have h1 := HL.out; have h2 := mt (padK_end m.length k HK.out).1 hk; omega
      have HS := Lib.hid (bs_one wr 5 (xi := 0) (x := 0) rfl)
      have HOx := Lib.hid (HO.out.mod ((Mod.refl [] wr).alloc (.cells #[.int .u8 0] 5)) (by simp))
      go_wp2_with (at_builtin; refine wpList_append_bytes rfl _ _ rfl HOx.out rfl HS.out rfl ?_ ?hz; intro A1 n1 cap1 w5 hown5 hn5 hm5 hf5; have HO5 := Lib.hid hown5; have HN5 := hn5; have HM5 := Lib.hid hm5; have HF5 := hf5; clear hown5 hn5 hm5 hf5)
      case hz => (have h1 := HL.out; simp; omega)
      have hs := grow_step HM.out HF.out HM5.out HF5.out
      have hn5 : n1 = L + 1 := by have h := HN5.out; have h1 := HL.out; simp at h; omega
      have hk2 : k + 1 ≤ padK m.length := by have := HK.out; omega
      exact ⟨⟨k + 1, n1, cap1, A1, rfl, Lib.hid (by have h1 := HL.out; omega), Lib.hid hk2, by have h1 := HL.out; unfold padK at hk2; omega, Lib.hid (by have h := HO5.out; rw [List.cons_append, ← List.replicate_succ'] at h; exact h), Lib.hid hs.1, Lib.hid hs.2⟩, by simp [vlen]; omega⟩
end Go.Proofs.Ytlpjeckhejbkkaa
end

section
set_option linter.unusedVariables false
set_option linter.unusedSimpArgs false
set_option maxRecDepth 20000
set_option maxHeartbeats 800000
namespace Go.Proofs.Ytlpjeckhejbkkaa
open Go.RowKit

/-- a slice of slices of bytes -/
def BSL (w : World) (q off : Nat) (l : List Bytes) : Prop := ∀ i b, l[i]? = some b → ∃ g v, w.cell? ⟨q, off + i, none⟩ = some v ∧ BS w g v b ∧ q < w.heap.size
theorem BSL.mod {w w' : World} {q off : Nat} {l : List Bytes} (h : BSL w q off l) (hm : Mod [] w w') : BSL w' q off l := fun i b hi => by
  obtain ⟨g, v, h1, h2, h3⟩ := h i b hi
  exact ⟨g, v, (hm.cell (p := ⟨q, off + i, none⟩) h3 (by simp)).trans h1, RS.mod h2 hm (by simp), by have := hm.size; omega⟩
theorem BS.far {w0 w : World} {g p : Nat} {v : Value} {b : Bytes} (h0 : BS w0 g v b) (h : BS w g v b) (hp : w0.heap.size ≤ p) : ∃ g', g' ≠ p ∧ BS w g' v b := by
  by_cases hb : 0 < b.length
  · obtain ⟨_, _, _, _, _, hlt, _⟩ := h0.at_ hb
    exact ⟨g, by omega, h⟩
  · obtain ⟨h1, A, cap, h2, h3, h4, h5⟩ := h
    exact ⟨p + 1, by omega, h1, A, cap, h2, h3, h4, fun h => absurd h hb⟩
theorem ofAll_any (q off cap : Nat) (A : Option Addr) (l : List Bytes) (w : World) (hB : BSL w q off l) (hA : 0 < l.length → A = some ⟨q, off, none⟩) (hc : l.length ≤ cap) (hcap : cap ≤ maxLen) (hl : l.flatten.length < 100000000000000) :
    Calls Try.prog 38 #[.slice A l.length cap] w fun e w' => e = .returned (shaOf l.flatten).val ∧ Mod [] w w' := by
  have HB := Lib.hid hB
  clear hB
  unfold maxLen at hcap
  go_enter Try.func38, Try.ntmps38
  go_upto_region 1 with fail
  have HB1 := Lib.hid (Blk.new w 46 GHash.zero.cells.toArray)
  have HM1 := Lib.hid ((Mod.refl [] w).alloc (.cells GHash.zero.cells.toArray 46))
  obtain ⟨q2, hq2⟩ : ∃ q, w.heap.size = q := ⟨_, rfl⟩
  obtain ⟨w1, hw1⟩ : ∃ w1, w.alloc (.cells GHash.zero.cells.toArray 46) = w1 := ⟨_, rfl⟩
  change Code.wp _ _ _ _ (w.alloc (.cells GHash.zero.cells.toArray 46))
  rw [hw1] at HB1 HM1 ⊢
  rw [hq2] at HB1 ⊢
  have HQ2 : Hid (w.heap.size = q2) := Lib.hid hq2
  clear hw1 hq2
  go_wp2_with fail
  refine (shaNew_any w1).mono ?_
  rintro e' w2 ⟨p, rfl, hp, ha, hm2⟩
  have HP : Hid (q2 < p ∧ w.heap.size ≤ p) := Lib.hid ⟨by have := HB1.out.lt; omega, by have := HM1.out.size; omega⟩
  have HA2 : Hid (Abs w2 p (l.take 0).flatten) := Lib.hid ha
  have HB2 := Lib.hid (HB1.out.mod hm2 (by simp))
  have HM2 := Lib.hid (HM1.out.trans hm2)
  clear ha hm2 HB1 HM1 hp
  go_wp2_with fail
  go_loopw [9] (fun s9 wr => ∃ i : Nat, s9 = .int .i64 (i : Int) ∧ i ≤ l.length ∧ Hid (Abs wr p (l.take i).flatten) ∧ Hid (Mod [] w wr) ∧ Hid (Blk wr q2 46 GHash.zero.cells.toArray)) (fun s _ => l.length - (intOf s).toNat)
  case atStart => exact ⟨0, rfl, by omega, HA2, HM2, HB2⟩
  case round =>
    obtain ⟨i, rfl, hi, HA, HM, HBr⟩ := hrel
    clear HA2 HM2 HB2
    by_cases hil : i < l.length
    · have hii : (i : Int) < (l.length : Int) := by omega
      obtain ⟨b, hb⟩ : ∃ b, l[i]? = some b := ⟨_, List.getElem?_eq_getElem hil⟩
      obtain ⟨g, v, hcell, hbs, hql⟩ := (HB.out.mod HM.out) i b hb
      obtain ⟨g0, v0, hcell0, hbs0, hql0⟩ := HB.out i b hb
      obtain rfl : A = some ⟨q, off, none⟩ := hA (by omega)
      obtain rfl : v0 = v := by
        have h1 := (HM.out.cell (p := ⟨q, off + i, none⟩) hql0 (by simp)).trans hcell0
        rw [hcell] at h1; injection h1 with h1; exact h1.symm
      obtain ⟨g', hg', hbs'⟩ := BS.far (p := p) hbs0 (RS.mod hbs0 HM.out (by simp)) HP.out.2
      have HBS := Lib.hid hbs'
      have htk : (l.take (i + 1)).flatten = (l.take i).flatten ++ b := by
        rw [List.take_add_one, hb]; simp
      have hle : (l.take (i + 1)).flatten.length ≤ l.flatten.length := by
        conv => rhs; rw [← List.take_append_drop (i + 1) l, List.flatten_append, List.length_append]
        omega
      rw [htk, List.length_append] at hle
      have HTK := Lib.hid htk
      have hle' : (l.take i).flatten.length + b.length < 2 ^ 63 := by omega
      have HLE := Lib.hid hle'
      clear hbs hbs0 hbs' hcell0 htk hle hle' hql0 hA
      go_wp2_with fail
      refine (write_any p g' b (l.take i).flatten v0 _ HA.out HBS.out hg' HLE.out).mono ?_
      rintro e' w5 ⟨rfl, ha5, hm5⟩
      have HA5 : Hid (Abs w5 p (l.take (i + 1)).flatten) := Lib.hid (by rw [HTK.out]; exact ha5)
      have HM5 := Lib.hid (HM.out.then hm5 (by have := HP.out; simp; omega))
      have HB5 := Lib.hid (HBr.out.mod hm5 (by have := HP.out; simp; omega))
      clear ha5 hm5
      go_wp2_with fail
      exact ⟨⟨i + 1, by simp, by omega, HA5, HM5, HB5⟩, by simp [intOf]; omega⟩
    · have hii : ¬ (i : Int) < (l.length : Int) := by omega
      have HAl : Hid (Abs wr p l.flatten) := Lib.hid (by have h := HA.out; rwa [List.take_of_length_le (by omega)] at h)
      have HLl := Lib.hid hl
      clear hl
      go_wp2_with fail
      refine (shaSum_any p l.flatten _ HAl.out HLl.out).mono ?_
      rintro e' w6 ⟨rfl, hm6⟩
      have HB6 := Lib.hid (HBr.out.mod hm6 (by simp))
      have HM6 := Lib.hid (HM.out.trans hm6)
      clear hm6
      go_wp2_with (first | ((with_reducible refine wpList_store_blk rtHash (cells := (shaOf l.flatten).cells) _ _ rfl ?hgd ?hx ?hy HB6.out (GHash.cells_length _) ?hold (GHash.one _) ?_); (case hgd => exact rfl); (case hx => exact rfl); (case hy => exact rfl); (case hold => exact rfl); intro w9 hb9 hm9; have HB9 := Lib.hid hb9; have HM9 := Lib.hid (HM6.out.then hm9 (by have := HQ2.out; simp; omega))))
      exact bodyPost_ret (results_row rtHash rfl rfl HB9.out (by simp [(shaOf l.flatten).cells_length])) rfl ⟨rfl, HM9.out⟩
theorem shaOf_any (g : Nat) (v : Value) (b : Bytes) (w : World) (hb : BS w g v b) (hl : b.length < 100000000000000) :
    Calls Try.prog 24 #[v] w fun e w' => e = .returned (shaOf b).val ∧ Mod [] w w' := by
  have HB := Lib.hid hb
  have HL : Hid ([b].flatten.length < 100000000000000) := Lib.hid (by simpa using hl)
  obtain ⟨A, cap, rfl, hc1, hc2⟩ := hb.val
  clear hb hl
  go_enter Try.func24, Try.ntmps24
  go_upto_region 1 with fail
  have HB1 := Lib.hid (Blk.new w 46 GHash.zero.cells.toArray)
  have HM1 := Lib.hid ((Mod.refl [] w).alloc (.cells GHash.zero.cells.toArray 46))
  obtain ⟨q2, hq2⟩ : ∃ q, w.heap.size = q := ⟨_, rfl⟩
  obtain ⟨w1, hw1⟩ : ∃ w1, w.alloc (.cells GHash.zero.cells.toArray 46) = w1 := ⟨_, rfl⟩
  change Code.wp _ _ _ _ (w.alloc (.cells GHash.zero.cells.toArray 46))
  rw [hw1] at HB1 HM1 ⊢
  rw [hq2] at HB1 ⊢
  have HQ2 : Hid (w.heap.size = q2) := Lib.hid hq2
  clear hw1 hq2
  go_wp2_with fail
  have hm2 : Mod [] w1 (w1.alloc (.cells #[.slice A b.length cap] 27)) := (Mod.refl [] w1).alloc _
  have hnew : (w1.alloc (.cells #[.slice A b.length cap] 27)).cell? ⟨w1.heap.size, 0 + 0, none⟩ = some (.slice A b.length cap) := (Blk.new w1 27 #[.slice A b.length cap]).cell 0
  have hbl : BSL (w1.alloc (.cells #[.slice A b.length cap] 27)) w1.heap.size 0 [b] := by
    intro i b' hi
    cases i with
    | zero =>
      injection hi with hi
      subst hi
      exact ⟨g, _, hnew, RS.mod HB.out (HM1.out.trans hm2) (by simp), (Blk.new w1 27 #[.slice A b.length cap]).lt⟩
    | succ i => cases hi
  refine (ofAll_any w1.heap.size 0 1 (some ⟨w1.heap.size, 0, none⟩) [b] _ hbl (fun _ => rfl) (by simp) (by decide) HL.out).mono ?_
  rintro e' w6 ⟨rfl, hm6⟩
  have HB6 := Lib.hid ((HB1.out.mod hm2 (by simp)).mod hm6 (by simp))
  have HM6 := Lib.hid ((HM1.out.trans hm2).trans hm6)
  have hfl : [b].flatten = b := by simp
  rw [hfl]
  clear hm6 hm2 hnew hbl hfl
  go_wp2_with (first | ((with_reducible refine wpList_store_blk rtHash (cells := (shaOf b).cells) _ _ rfl ?hgd ?hx ?hy HB6.out (GHash.cells_length _) ?hold (GHash.one _) ?_); (case hgd => exact rfl); (case hx => exact rfl); (case hy => exact rfl); (case hold => exact rfl); intro w9 hb9 hm9; have HB9 := Lib.hid hb9; have HM9 := Lib.hid (HM6.out.then hm9 (by have := HQ2.out; simp; omega))))
  exact bodyPost_ret (results_row rtHash rfl rfl HB9.out (by simp [(shaOf b).cells_length])) rfl ⟨rfl, HM9.out⟩
end Go.Proofs.Ytlpjeckhejbkkaa
end
