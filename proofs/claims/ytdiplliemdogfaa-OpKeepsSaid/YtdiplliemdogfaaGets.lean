import Derived.Test.YtdiplliemdogfaaSameList
import Derived.Test.YtdiplliemdogfaaPlaced
import Derived.Test.YtdiplliemdogfaaOnceLaw
import Derived.Test.YtdiplliemdogfaaFix
set_option linter.unusedVariables false
set_option linter.unusedSimpArgs false
set_option maxRecDepth 20000
set_option maxHeartbeats 1600000
namespace Go.Proofs.Ytdiplliemdogfaa
open Go.RowKit

/-- the two readers of the law -/
def GG (w : World) (p gi g r : Nat) (xs : Bytes) (pos : Nat) (s : Rd Unit) (wr : World) : Prop :=
  InB wr p gi xs pos .nilIface ∧ RIn wr r g xs s ∧ Mod [] w wr ∧ (w.heap.size ≤ p ∧ p < r ∧ (0 < xs.length → w.heap.size ≤ gi ∧ gi < r ∧ g < w.heap.size))
theorem GG.pack {w wr w' : World} {p gi g r : Nat} {xs : Bytes} {pos pos' : Nat} {s : Rd Unit} (h : GG w p gi g r xs pos s wr) (hI : InB w' p gi xs pos' .nilIface) (hm : Mod [p] wr w') : GG w p gi g r xs pos' s w' := by
  obtain ⟨k1, k2, k3, j1, j2, j3⟩ := h
  exact ⟨hI, k2.mod hm (by simp; omega) (fun h0 => by have := j3 h0; simp; omega), k3.then hm (by simp; omega), j1, j2, j3⟩
theorem GG.ref {w wr w' : World} {p gi g r : Nat} {xs : Bytes} {pos : Nat} {s s' : Rd Unit} (h : GG w p gi g r xs pos s wr) (hI : RIn w' r g xs s') (hm : Mod [r] wr w') : GG w p gi g r xs pos s' w' := by
  obtain ⟨k1, k2, k3, j1, j2, j3⟩ := h
  exact ⟨k1.mod hm (by simp; omega) (fun h0 => by have := j3 h0; simp; omega), hI, k3.then hm (by simp; omega), j1, j2, j3⟩
theorem GG.mod {w wr w' : World} {p gi g r : Nat} {xs : Bytes} {pos : Nat} {s : Rd Unit} (h : GG w p gi g r xs pos s wr) (hm : Mod [] wr w') : GG w p gi g r xs pos s w' := by
  obtain ⟨k1, k2, k3, j⟩ := h
  exact ⟨k1.mod hm (by simp) (by simp), k2.mod hm (by simp) (by simp), k3.trans hm, j⟩
theorem gets_any (xs : Bytes) (g : Nat) (sv : Value) (i : Int) (w : World) (hs : BS w g sv xs) (hz : xs.length ≤ 140737488355328) :
    Calls Try.prog 8 #[sv, .int .i64 i] w fun e w' => e = .returned (.bool true) ∧ Mod [] w w' := by
  obtain ⟨A, cap, rfl, hc1, hc2⟩ := hs.val
  have HS := Lib.hid hs; clear hs
  have HZ := Lib.hid hz; clear hz
  obtain ⟨m, hm⟩ : ∃ m : Nat, (if 0 < i ∧ i ≤ (xs.length : Int) then i.toNat else 0) = m := ⟨_, rfl⟩
  have HMM := Lib.hid hm; clear hm
  go_enter Try.func8, Try.ntmps8
  go_wp2_with fail
  refine (newIn_any _ g xs w HS.out HZ.out).mono ?_
  rintro e' w1 ⟨p, gi, rfl, hI, hm, hp, hgi⟩
  have HI := Lib.hid hI
  have HM := Lib.hid hm
  have HP := Lib.hid hp
  clear hI hm hp
  have HGI := Lib.hid hgi; clear hgi
  obtain ⟨r, hr⟩ : ∃ r, w1.heap.size = r := ⟨_, rfl⟩
  obtain ⟨w2, hw2⟩ : ∃ w2, w1.alloc (.cells #[.slice A xs.length cap, .int .i64 0, .int .i64 0, .int .i64 0] 59) = w2 := ⟨_, rfl⟩
  have HG : Hid (GG w p gi g r xs 0 (.ok () 0) w2) := Lib.hid (by
    have h1 : Mod [] w1 w2 := hw2 ▸ (Mod.refl [] w1).alloc _
    have h2 := HI.out.lt
    have h3 := HM.out.size
    have h4 : Blk w2 r 59 #[.slice A xs.length cap, .int .i64 0, .int .i64 0, .int .i64 0] := by rw [← hw2, ← hr]; exact Blk.new _ _ _
    have h5 : 0 < xs.length → g < w.heap.size := fun h0 => by obtain ⟨_, _, _, _, _, hl', _⟩ := HS.out.at_ h0; exact hl'
    have h6 : 0 < xs.length → gi < w1.heap.size := fun h0 => by obtain ⟨v, _, hr, _⟩ := HI.out; obtain ⟨_, _, _, _, _, hl', _⟩ := hr.at_ h0; exact hl'
    refine ⟨HI.out.mod h1 (by simp) (by simp), ⟨⟨_, h4, HS.out.mod (HM.out.trans h1) (by simp), fun h0 => by have := h5 h0; omega⟩, by simp [posOf], fun y a h => by cases h⟩, HM.out.trans h1, HP.out, by omega, fun h0 => ⟨HGI.out h0, by have := h6 h0; omega, h5 h0⟩⟩)
  clear HI HM HP HGI
  go_upto_region 5 with fail
  generalize w1.alloc (.cells #[.slice A xs.length cap, .int .i64 0, .int .i64 0, .int .i64 0] 59) = w2' at *
  subst hw2
  clear hr
  go_cut [27] from 13 (fun s27 wc => s27 = .bool (decide (0 < i ∧ i ≤ (xs.length : Int))) ∧ wc = w2')
  case first =>
    by_cases h0 : 0 < i
    · by_cases h1 : i ≤ (xs.length : Int)
      · go_wp2_with fail
        go_meet
        case rel => exact ⟨by simp [h0, h1], rfl⟩
      · go_wp2_with fail
        go_meet
        case rel => exact ⟨(by simp; intro; omega), rfl⟩
    · go_wp2_with fail
      go_meet
      case rel => exact ⟨(by simp; intro; omega), rfl⟩
  case rest =>
    obtain ⟨rfl, rfl⟩ := hcut
    go_upto_if 27 with fail
    go_cut [] from 13 (fun wc => Hid (GG w p gi g r xs m (.ok () m) wc))
    case first =>
      by_cases hin : 0 < i ∧ i ≤ (xs.length : Int)
      · have HIN := Lib.hid hin
        rw [decide_eq_true hin]
        have hmm := HMM.out
        rw [if_pos hin] at hmm
        have him : i = (m : Int) := by omega
        subst him
        clear hin hmm
        have hml : m ≤ xs.length := by have := HIN.out; omega
        have hraw := inRaw_any m p gi xs wc 0 HG.out.1 (by omega) HZ.out
        have hrd : rdRaw xs 0 m = .ok ((xs.drop 0).take m) m := by unfold rdRaw; rw [if_neg (by omega), Nat.zero_add]
        rw [hrd] at hraw
        have HRAW := Lib.hid hraw
        have HRD := Lib.hid hrd
        clear hraw hrd
        go_wp2_with fail
        refine HRAW.out.mono ?_
        rintro e' w3 ⟨v3, rfl, hI3, hm3, _, _⟩
        have HGnew := Lib.hid (HG.out.pack hI3 hm3); clear HG; have HG := HGnew; clear HGnew
        clear hI3 hm3 HRAW
        have hraw : Calls Try.prog 29 #[ptr r, .int .i64 m] w3 (RawQ w3 r g xs (rdRaw xs 0 m)) := refRaw_any m r g xs (.ok () 0) w3 HG.out.2.1 (by have := HZ.out; omega) HZ.out
        rw [HRD.out] at hraw
        have HRAW := Lib.hid hraw
        clear hraw HRD
        go_wp2_with fail
        refine HRAW.out.mono ?_
        rintro e' w4 ⟨A4, n4, c4, rfl, _, hI4, hm4, _⟩
        have HGnew := Lib.hid (HG.out.ref hI4 hm4); clear HG; have HG := HGnew; clear HGnew
        clear hI4 hm4 HRAW
        go_wp2_with fail
        go_meet
        case rel => exact HG
      · have hmm := HMM.out
        rw [if_neg hin] at hmm
        subst hmm
        rw [decide_eq_false hin]
        go_wp2_with fail
        go_meet
        case rel => exact HG
    case rest =>
      have HG := hcut
      have hml : m ≤ xs.length := HG.out.2.1.2.1
      have hget := opGet_any p gi xs wc m HG.out.1 hml HZ.out
      have HGET := Lib.hid hget
      clear hget
      have HREF : Hid (∀ W, RIn W r g xs (.ok () m) → Calls Try.prog 30 #[ptr r] W (RGetP W r g xs (rdOps xs m))) := Lib.hid (fun W hW => refGet_any r g m xs W hW HZ.out)
      generalize rdOps xs m = R at HGET HREF
      go_wp2_with fail
      refine HGET.out.mono ?_
      cases R with
      | ok l pos =>
        rintro e' w3 ⟨A3, n3, cap3, rfl, ho3, hI3, hm3, hf3⟩
        have HGnew := Lib.hid (HG.out.pack hI3 hm3); clear HG; have HG := HGnew; clear HGnew
        have HO3 := Lib.hid ho3
        have hrb : ∀ b ∈ blks (.slice A3 n3 cap3), b ≠ r := fun b hb => by
          have := hf3 b hb
          obtain ⟨k1, k2, k3, j⟩ := hcut.out
          have := k2.lt
          omega
        have HRB := Lib.hid hrb
        clear hI3 hm3 HGET ho3 hf3 hrb
        go_wp2_with fail
        refine (HREF.out w3 HG.out.2.1).mono ?_
        rintro e' w4 ⟨A4, n4, cap4, rfl, ho4, hI4, hm4, hf4⟩
        have HO3new := Lib.hid (HO3.out.mod hm4 (fun b hb => by have := HRB.out b hb; simpa using this)); clear HO3; have HO3 := HO3new; clear HO3new
        have HGnew := Lib.hid (HG.out.ref hI4 hm4); clear HG; have HG := HGnew; clear HGnew
        have HO4 := Lib.hid ho4
        clear hI4 hm4 ho4 hf4 HRB HREF
        unfold errV
        go_upto_region 10 with fail
        have HE5 := Lib.hid (Blk.new w4 57 #[.int .i64 0, .int .i64 0])
        have hm5 : Mod [] w4 (w4.alloc (.cells #[.int .i64 0, .int .i64 0] 57)) := (Mod.refl [] w4).alloc _
        have HGnew := Lib.hid (HG.out.mod hm5); clear HG; have HG := HGnew; clear HGnew
        have HO3new := Lib.hid (HO3.out.mod hm5 (by simp)); clear HO3; have HO3 := HO3new; clear HO3new
        have HO4new := Lib.hid (HO4.out.mod hm5 (by simp)); clear HO4; have HO4 := HO4new; clear HO4new
        clear hm5
        generalize w4.alloc (.cells #[.int .i64 0, .int .i64 0] 57) = w5 at *
        generalize w4.heap.size = ee at *
        go_wp2_with fail
        refine (placed_nil w5).mono ?_
        rintro e' w6 ⟨rfl, hm6⟩
        have HGnew := Lib.hid (HG.out.mod hm6); clear HG; have HG := HGnew; clear HGnew
        have HO3new := Lib.hid (HO3.out.mod hm6 (by simp)); clear HO3; have HO3 := HO3new; clear HO3new
        have HO4new := Lib.hid (HO4.out.mod hm6 (by simp)); clear HO4; have HO4 := HO4new; clear HO4new
        have HE5new := Lib.hid (HE5.out.mod hm6 (by simp)); clear HE5; have HE5 := HE5new; clear HE5new
        clear hm6
        unfold errV
        go_upto_region 11 with fail
        have HX5 := Lib.hid (Blk.new w6 57 #[.int .i64 0, .int .i64 0])
        have hm7 : Mod [] w6 (w6.alloc (.cells #[.int .i64 0, .int .i64 0] 57)) := (Mod.refl [] w6).alloc _
        have HGnew := Lib.hid (HG.out.mod hm7); clear HG; have HG := HGnew; clear HGnew
        have HO3new := Lib.hid (HO3.out.mod hm7 (by simp)); clear HO3; have HO3 := HO3new; clear HO3new
        have HO4new := Lib.hid (HO4.out.mod hm7 (by simp)); clear HO4; have HO4 := HO4new; clear HO4new
        have HE5new := Lib.hid (HE5.out.mod hm7 (by simp)); clear HE5; have HE5 := HE5new; clear HE5new
        clear hm7
        generalize w6.alloc (.cells #[.int .i64 0, .int .i64 0] 57) = w7 at *
        generalize w6.heap.size = be at *
        have e0 := HE5.out.cell 0
        have e1 := HE5.out.cell 1
        have b0 := HX5.out.cell 0
        have b1 := HX5.out.cell 1
        obtain ⟨ga, hsa, _⟩ := HO3.out.os
        obtain ⟨gb, hsb, _⟩ := HO4.out.os
        have hsl := refSameList_any l l ga gb _ _ w7 hsa hsb
        rw [decide_eq_true (rfl : l = l)] at hsl
        have HSL := Lib.hid hsl
        clear hsl hsa hsb
        go_wp2_with fail
        refine HSL.out.mono ?_
        rintro e' w8 ⟨rfl, hm8⟩
        have HGnew := Lib.hid (HG.out.mod hm8); clear HG; have HG := HGnew; clear HGnew
        have HE5new := Lib.hid (HE5.out.mod hm8 (by simp)); clear HE5; have HE5 := HE5new; clear HE5new
        clear e0 e1 b0 b1 hm8 HSL HX5 HO3 HO4
        go_wp2_with fail
        have hw0 : Mod [] w8 w8.drew := (Mod.refl _ w8).drew
        have hE : ∀ W, Mod [] w8 W → W.cell? ⟨ee, 0, none⟩ = some (.int .i64 0) := fun W hW => (HE5.out.mod hW (by simp)).cell 0
        have hPos : ∀ W, Mod [] w8 W → W.cell? ⟨r, 1, none⟩ = some (.int .i64 (pos : Int)) := fun W hW => by
          obtain ⟨A9, cap9, _, d1, _⟩ := (HG.out.mod hW).2.1.open_
          exact d1
        have HF : Hid (Mod [] w8 w8.drew) := Lib.hid hw0
        have hpl : pos ≤ xs.length := HG.out.2.1.2.1
        have hRL : ∀ W, RIn W r g xs (.ok () pos) → Calls Try.prog 33 #[ptr r] W fun e' w' => e' = .returned (.int .i64 (xs.length - pos : Nat)) ∧ Mod [] W w' := fun W hW => refLeft_any r g xs (.ok () pos) W hW
        refine wp_regionE (Mod []) (by kernel_rfl) ?_
        simp only [List.size_toArray, List.length_cons, List.length_nil, Nat.zero_add, Nat.reduceAdd]
        refine wpAnyE_takeL (preMod _) 0 (v := ?_) rfl (by kernel_rfl) (by kernel_rfl) (by kernel_rfl) (fun _ _ _ h => h) (Or.inl ⟨by rfl, ?_⟩) ?_
        rotate_left; (intro W hW; (try dsimp only at hW); go_simp; try with_reducible rfl)
        (try simp only [Act.put, List.setIfInBounds_toArray, List.set_cons_zero, List.set_cons_succ])
        refine wpAnyE_takeL (preMod _) 1 (v := ?_) rfl (by kernel_rfl) (by kernel_rfl) (by kernel_rfl) (fun _ _ _ h => h) (Or.inl ⟨by rfl, ?_⟩) ?_
        rotate_left; (intro W hW; (try dsimp only at hW); (have hc := hE W (hw0.trans hW); go_simp); try with_reducible rfl)
        (try simp only [Act.put, List.setIfInBounds_toArray, List.set_cons_zero, List.set_cons_succ])
        refine wpAnyE_takeL (preMod _) 2 (v := ?_) rfl (by kernel_rfl) (by kernel_rfl) (by kernel_rfl) (fun _ _ _ h => h) (Or.inl ⟨by rfl, ?_⟩) ?_
        rotate_left; (intro W hW; (try dsimp only at hW); go_simp; try with_reducible rfl)
        (try simp only [Act.put, List.setIfInBounds_toArray, List.set_cons_zero, List.set_cons_succ])
        refine wpAnyE_takeL (preMod _) 3 (v := ?_) rfl (by kernel_rfl) (by kernel_rfl) (by kernel_rfl) (fun _ _ _ h => h) (Or.inl ⟨by rfl, ?_⟩) ?_
        rotate_left; (intro W hW; (try dsimp only at hW); go_simp; try with_reducible rfl)
        (try simp only [Act.put, List.setIfInBounds_toArray, List.set_cons_zero, List.set_cons_succ])
        refine wpAnyE_takeL (preMod _) 4 (v := ?_) rfl (by kernel_rfl) (by kernel_rfl) (by kernel_rfl) (fun _ _ _ h => h) (Or.inl ⟨by rfl, ?_⟩) ?_
        rotate_left; (intro W hW; (try dsimp only at hW); go_simp; try with_reducible rfl)
        (try simp only [Act.put, List.setIfInBounds_toArray, List.set_cons_zero, List.set_cons_succ])
        refine wpAnyE_takeL (preMod _) 6 (v := ?_) rfl (by kernel_rfl) (by kernel_rfl) (by kernel_rfl) (fun _ _ _ h => h) (Or.inl ⟨by rfl, ?_⟩) ?_
        rotate_left; (intro W hW; (try dsimp only at hW); go_simp; try with_reducible rfl)
        (try simp only [Act.put, List.setIfInBounds_toArray, List.set_cons_zero, List.set_cons_succ])
        refine wpAnyE_takeL (preMod _) 7 (v := ?_) rfl (by kernel_rfl) (by kernel_rfl) (by kernel_rfl) (fun _ _ _ h => h) (Or.inl ⟨by rfl, ?_⟩) ?_
        rotate_left; (intro W hW; (try dsimp only at hW); go_simp; try with_reducible rfl)
        (try simp only [Act.put, List.setIfInBounds_toArray, List.set_cons_zero, List.set_cons_succ])
        refine wpAnyE_takeL (preMod _) 8 (v := ?_) rfl (by kernel_rfl) (by kernel_rfl) (by kernel_rfl) (fun _ _ _ h => h) (Or.inl ⟨by rfl, ?_⟩) ?_
        rotate_left; (intro W hW; (try dsimp only at hW); go_simp; try with_reducible rfl)
        (try simp only [Act.put, List.setIfInBounds_toArray, List.set_cons_zero, List.set_cons_succ])
        refine wpAnyE_takeL (preMod _) 9 (v := ?_) rfl (by kernel_rfl) (by kernel_rfl) (by kernel_rfl) (fun _ _ _ h => h) (Or.inl ⟨by rfl, ?_⟩) ?_
        rotate_left; (intro W hW; (try dsimp only at hW); (have hc := hPos W (hw0.trans hW); go_simp); try with_reducible rfl)
        (try simp only [Act.put, List.setIfInBounds_toArray, List.set_cons_zero, List.set_cons_succ])
        refine wpAnyE_ready (rs := [5]) (by kernel_rfl) (by simp) ?_
        refine AllReadyE.consL rfl (fun K hK => ?_) AllReadyE.nil
        rw [if_pos (by rfl)]
        go_simp
        go_at_call 25
        refine (at_any p gi xs _ pos _ (HG.out.mod HF.out).1).mono ?_
        rintro e' w9 ⟨rfl, rfl⟩
        have hmE : Mod [] w8.drew w8.drew := Mod.refl _ _
        go_wp2_with fail
        refine hK.out _ _ (by first | exact hmE | exact Mod.refl _ _ | exact (Mod.refl _ _).alloc _) ?_
        clear hK
        (try simp only [Act.put, List.setIfInBounds_toArray, List.set_cons_zero, List.set_cons_succ])
        refine wpAnyE_takeL (preMod _) 10 (v := ?_) rfl (by kernel_rfl) (by kernel_rfl) (by kernel_rfl) (fun _ _ _ h => h) (Or.inl ⟨by rfl, ?_⟩) ?_
        rotate_left; (intro W hW; (try dsimp only at hW); go_simp; try with_reducible rfl)
        (try simp only [Act.put, List.setIfInBounds_toArray, List.set_cons_zero, List.set_cons_succ])
        refine wpAnyE_takeL (preMod _) 11 (v := ?_) rfl (by kernel_rfl) (by kernel_rfl) (by kernel_rfl) (fun _ _ _ h => h) (Or.inl ⟨by rfl, ?_⟩) ?_
        rotate_left; (intro W hW; (try dsimp only at hW); go_simp; try with_reducible rfl)
        (try simp only [Act.put, List.setIfInBounds_toArray, List.set_cons_zero, List.set_cons_succ])
        refine wpAnyE_takeL (preMod _) 12 (v := ?_) rfl (by kernel_rfl) (by kernel_rfl) (by kernel_rfl) (fun _ _ _ h => h) (Or.inl ⟨by rfl, ?_⟩) ?_
        rotate_left; (intro W hW; (try dsimp only at hW); go_simp; try with_reducible rfl)
        (try simp only [Act.put, List.setIfInBounds_toArray, List.set_cons_zero, List.set_cons_succ])
        refine wpAnyE_takeL (preMod _) 14 (v := ?_) rfl (by kernel_rfl) (by kernel_rfl) (by kernel_rfl) (fun _ _ _ h => h) (Or.inl ⟨by rfl, ?_⟩) ?_
        rotate_left; (intro W hW; (try dsimp only at hW); go_simp; try with_reducible rfl)
        (try simp only [Act.put, List.setIfInBounds_toArray, List.set_cons_zero, List.set_cons_succ])
        refine wpAnyE_ready (rs := [13]) (by kernel_rfl) (by simp) ?_
        refine AllReadyE.consL rfl (fun K hK => ?_) AllReadyE.nil
        rw [if_pos (by rfl)]
        go_simp
        go_at_call 32
        refine (left_any p gi xs _ pos _ (HG.out.mod HF.out).1 hpl).mono ?_
        rintro e' w9 ⟨rfl, k9, hk9⟩
        have hmE : Mod [] _ w9 := hk9 ▸ (Mod.refl [] _).drewN k9
        clear hk9
        have HFnew := Lib.hid (HF.out.trans hmE); clear HF; have HF := HFnew; clear HFnew
        go_wp2_with fail
        refine hK.out _ _ (by first | exact hmE | exact Mod.refl _ _ | exact (Mod.refl _ _).alloc _) ?_
        clear hK
        (try simp only [Act.put, List.setIfInBounds_toArray, List.set_cons_zero, List.set_cons_succ])
        refine wpAnyE_ready (rs := [15]) (by kernel_rfl) (by simp) ?_
        refine AllReadyE.consL rfl (fun K hK => ?_) AllReadyE.nil
        rw [if_pos (by rfl)]
        go_simp
        go_at_call 33
        refine (hRL _ (HG.out.mod HF.out).2.1).mono ?_
        rintro e' w9 ⟨rfl, hm9⟩
        have hmE := hm9
        have HFnew := Lib.hid (HF.out.trans hm9); clear HF; have HF := HFnew; clear HFnew
        go_wp2_with fail
        refine hK.out _ _ (by first | exact hmE | exact Mod.refl _ _ | exact (Mod.refl _ _).alloc _) ?_
        clear hK
        (try simp only [Act.put, List.setIfInBounds_toArray, List.set_cons_zero, List.set_cons_succ])
        refine wpAnyE_takeL (preMod _) 16 (v := ?_) rfl (by kernel_rfl) (by kernel_rfl) (by kernel_rfl) (fun _ _ _ h => h) (Or.inl ⟨by rfl, ?_⟩) ?_
        rotate_left; (intro W hW; (try dsimp only at hW); go_simp; try with_reducible rfl)
        (try simp only [Act.put, List.setIfInBounds_toArray, List.set_cons_zero, List.set_cons_succ])
        refine wpAnyE_takeL (preMod _) 17 (v := ?_) rfl (by kernel_rfl) (by kernel_rfl) (by kernel_rfl) (fun _ _ _ h => h) (Or.inl ⟨by rfl, ?_⟩) ?_
        rotate_left; (intro W hW; (try dsimp only at hW); go_simp; try with_reducible rfl)
        (try simp only [Act.put, List.setIfInBounds_toArray, List.set_cons_zero, List.set_cons_succ])
        refine wpAnyE_takeL (preMod _) 18 (v := ?_) rfl (by kernel_rfl) (by kernel_rfl) (by kernel_rfl) (fun _ _ _ h => h) (Or.inl ⟨by rfl, ?_⟩) ?_
        rotate_left; (intro W hW; (try dsimp only at hW); go_simp; try with_reducible rfl)
        (try simp only [Act.put, List.setIfInBounds_toArray, List.set_cons_zero, List.set_cons_succ])
        refine wpAnyE_done (by kernel_rfl) ?_ _
        go_wp2_with fail
        refine (fixed_any _).mono ?_
        rintro e' w10 ⟨rfl, hm10⟩
        go_wp2_with fail
        go_ret
        exact ⟨rfl, HG.out.2.2.1.trans (HF.out.trans hm10)⟩
      | bad y a =>
        rintro e' w3 ⟨b, rfl, hb3, hm3, hbl⟩
        have HR3 := Lib.hid (HG.out.2.1.mod hm3 (by obtain ⟨k1, k2, k3, j1, j2, j3⟩ := HG.out; simp; omega) (fun h0 => by obtain ⟨k1, k2, k3, j1, j2, j3⟩ := HG.out; have := j3 h0; simp; omega))
        have HM3 : Hid (Mod [] w w3) := Lib.hid (by obtain ⟨k1, k2, k3, j1, j2, j3⟩ := HG.out; exact k3.then hm3 (by simp; omega))
        have HB3 := Lib.hid hb3
        have HBL : Hid (b ≠ r) := Lib.hid (by have := HG.out.2.1.lt; omega)
        have hrw : w.heap.size ≤ r := by obtain ⟨k1, k2, k3, j1, j2, j3⟩ := HG.out; omega
        clear hb3 hm3 hbl HGET
        go_wp2_with fail
        refine (HREF.out w3 HR3.out).mono ?_
        rintro e' w4 ⟨rfl, hI4, hm4⟩
        have hy0 : y ≠ 0 := hI4.2.2 y a rfl
        have HB4 : Hid (BadAt w4 b y a) := Lib.hid (Blk.mod HB3.out hm4 (by simpa using HBL.out))
        have HM4 : Hid (Mod [] w w4) := Lib.hid (HM3.out.then hm4 (by simp; omega))
        clear hI4 hm4 HB3 HM3 HR3 HBL
        unfold errV
        go_upto_region 10 with fail
        have HE5 := Lib.hid (Blk.new w4 57 #[.int .i64 y, .int .i64 a])
        have hm5 : Mod [] w4 (w4.alloc (.cells #[.int .i64 y, .int .i64 a] 57)) := (Mod.refl [] w4).alloc _
        have HM4new := Lib.hid (HM4.out.trans hm5); clear HM4; have HM4 := HM4new; clear HM4new
        have HB4new := Lib.hid (Blk.mod HB4.out hm5 (by simp)); clear HB4; have HB4 := HB4new; clear HB4new
        clear hm5
        generalize w4.alloc (.cells #[.int .i64 (y : Int), .int .i64 (a : Int)] 57) = w5 at *
        generalize w4.heap.size = ee at *
        go_wp2_with fail
        refine (placed_bad w5 b y a HB4.out hy0).mono ?_
        rintro e' w6 ⟨rfl, hm6⟩
        have HM4new := Lib.hid (HM4.out.trans hm6); clear HM4; have HM4 := HM4new; clear HM4new
        have HE5new := Lib.hid (HE5.out.mod hm6 (by simp)); clear HE5; have HE5 := HE5new; clear HE5new
        clear hm6
        unfold errV
        go_upto_region 11 with fail
        have HX5 := Lib.hid (Blk.new w6 57 #[.int .i64 y, .int .i64 a])
        have hm7 : Mod [] w6 (w6.alloc (.cells #[.int .i64 y, .int .i64 a] 57)) := (Mod.refl [] w6).alloc _
        have HM4new := Lib.hid (HM4.out.trans hm7); clear HM4; have HM4 := HM4new; clear HM4new
        have HE5new := Lib.hid (HE5.out.mod hm7 (by simp)); clear HE5; have HE5 := HE5new; clear HE5new
        clear hm7
        generalize w6.alloc (.cells #[.int .i64 (y : Int), .int .i64 (a : Int)] 57) = w7 at *
        generalize w6.heap.size = be at *
        have e0 := HE5.out.cell 0
        have e1 := HE5.out.cell 1
        have b0 := HX5.out.cell 0
        have b1 := HX5.out.cell 1
        obtain ⟨ga, hsa, _⟩ := (OwnO.nil w7).os
        have hsl := refSameList_any [] [] ga ga _ _ w7 hsa hsa
        rw [decide_eq_true (rfl : ([] : List GOp) = [])] at hsl
        have HSL := Lib.hid hsl
        clear hsl hsa HB4
        go_wp2_with fail
        refine HSL.out.mono ?_
        rintro e' w8 ⟨rfl, hm8⟩
        have HM4new := Lib.hid (HM4.out.trans hm8); clear HM4; have HM4 := HM4new; clear HM4new
        have HE5new := Lib.hid (HE5.out.mod hm8 (by simp)); clear HE5; have HE5 := HE5new; clear HE5new
        clear e0 e1 b0 b1 hm8 HSL HX5
        have hy1 : ¬ ((y : Int) = 0) := by omega
        have hyb : ((y : Int) == 0) = false := by simpa using hy0
        go_wp2_with fail
        have hw0 : Mod [] w8 w8.drew := (Mod.refl _ w8).drew
        have hE : ∀ W, Mod [] w8 W → W.cell? ⟨ee, 0, none⟩ = some (.int .i64 (y : Int)) := fun W hW => (HE5.out.mod hW (by simp)).cell 0
        refine wp_regionE (Mod []) (by kernel_rfl) ?_
        simp only [List.size_toArray, List.length_cons, List.length_nil, Nat.zero_add, Nat.reduceAdd]
        refine wpAnyE_takeL (preMod _) 0 (v := ?_) rfl (by kernel_rfl) (by kernel_rfl) (by kernel_rfl) (fun _ _ _ h => h) (Or.inl ⟨by rfl, ?_⟩) ?_
        rotate_left; (intro W hW; (try dsimp only at hW); go_simp; try with_reducible rfl)
        (try simp only [Act.put, List.setIfInBounds_toArray, List.set_cons_zero, List.set_cons_succ])
        refine wpAnyE_takeL (preMod _) 1 (v := ?_) rfl (by kernel_rfl) (by kernel_rfl) (by kernel_rfl) (fun _ _ _ h => h) (Or.inl ⟨by rfl, ?_⟩) ?_
        rotate_left; (intro W hW; (try dsimp only at hW); (have hc := hE W (hw0.trans hW); go_simp); try with_reducible rfl)
        (try simp only [Act.put, List.setIfInBounds_toArray, List.set_cons_zero, List.set_cons_succ])
        refine wpAnyE_takeL (preMod _) 2 (v := ?_) rfl (by kernel_rfl) (by kernel_rfl) (by kernel_rfl) (fun _ _ _ h => h) (Or.inl ⟨by rfl, ?_⟩) ?_
        rotate_left; (intro W hW; (try dsimp only at hW); go_simp; try with_reducible rfl)
        (try simp only [Act.put, List.setIfInBounds_toArray, List.set_cons_zero, List.set_cons_succ])
        refine wpAnyE_takeL (preMod _) 3 (v := ?_) rfl (by kernel_rfl) (by kernel_rfl) (by kernel_rfl) (fun _ _ _ h => h) (Or.inl ⟨by rfl, ?_⟩) ?_
        rotate_left; (intro W hW; (try dsimp only at hW); go_simp; try with_reducible rfl)
        (try simp only [Act.put, List.setIfInBounds_toArray, List.set_cons_zero, List.set_cons_succ])
        refine wpAnyE_takeL (preMod _) 4 (v := undef) rfl (by kernel_rfl) (by kernel_rfl) (by kernel_rfl) (fun _ _ _ h => h) (Or.inr ⟨by rfl, rfl⟩) ?_
        (try simp only [Act.put, List.setIfInBounds_toArray, List.set_cons_zero, List.set_cons_succ])
        refine wpAnyE_takeL (preMod _) 5 (v := undef) rfl (by kernel_rfl) (by kernel_rfl) (by kernel_rfl) (fun _ _ _ h => h) (Or.inr ⟨by rfl, rfl⟩) ?_
        (try simp only [Act.put, List.setIfInBounds_toArray, List.set_cons_zero, List.set_cons_succ])
        refine wpAnyE_takeL (preMod _) 6 (v := undef) rfl (by kernel_rfl) (by kernel_rfl) (by kernel_rfl) (fun _ _ _ h => h) (Or.inr ⟨by rfl, rfl⟩) ?_
        (try simp only [Act.put, List.setIfInBounds_toArray, List.set_cons_zero, List.set_cons_succ])
        refine wpAnyE_takeL (preMod _) 7 (v := undef) rfl (by kernel_rfl) (by kernel_rfl) (by kernel_rfl) (fun _ _ _ h => h) (Or.inr ⟨by rfl, rfl⟩) ?_
        (try simp only [Act.put, List.setIfInBounds_toArray, List.set_cons_zero, List.set_cons_succ])
        refine wpAnyE_takeL (preMod _) 8 (v := undef) rfl (by kernel_rfl) (by kernel_rfl) (by kernel_rfl) (fun _ _ _ h => h) (Or.inr ⟨by rfl, rfl⟩) ?_
        (try simp only [Act.put, List.setIfInBounds_toArray, List.set_cons_zero, List.set_cons_succ])
        refine wpAnyE_takeL (preMod _) 9 (v := undef) rfl (by kernel_rfl) (by kernel_rfl) (by kernel_rfl) (fun _ _ _ h => h) (Or.inr ⟨by rfl, rfl⟩) ?_
        (try simp only [Act.put, List.setIfInBounds_toArray, List.set_cons_zero, List.set_cons_succ])
        refine wpAnyE_takeL (preMod _) 10 (v := undef) rfl (by kernel_rfl) (by kernel_rfl) (by kernel_rfl) (fun _ _ _ h => h) (Or.inr ⟨by rfl, rfl⟩) ?_
        (try simp only [Act.put, List.setIfInBounds_toArray, List.set_cons_zero, List.set_cons_succ])
        refine wpAnyE_takeL (preMod _) 11 (v := undef) rfl (by kernel_rfl) (by kernel_rfl) (by kernel_rfl) (fun _ _ _ h => h) (Or.inr ⟨by rfl, rfl⟩) ?_
        (try simp only [Act.put, List.setIfInBounds_toArray, List.set_cons_zero, List.set_cons_succ])
        refine wpAnyE_takeL (preMod _) 12 (v := undef) rfl (by kernel_rfl) (by kernel_rfl) (by kernel_rfl) (fun _ _ _ h => h) (Or.inr ⟨by rfl, rfl⟩) ?_
        (try simp only [Act.put, List.setIfInBounds_toArray, List.set_cons_zero, List.set_cons_succ])
        refine wpAnyE_takeL (preMod _) 13 (v := undef) rfl (by kernel_rfl) (by kernel_rfl) (by kernel_rfl) (fun _ _ _ h => h) (Or.inr ⟨by rfl, rfl⟩) ?_
        (try simp only [Act.put, List.setIfInBounds_toArray, List.set_cons_zero, List.set_cons_succ])
        refine wpAnyE_takeL (preMod _) 14 (v := undef) rfl (by kernel_rfl) (by kernel_rfl) (by kernel_rfl) (fun _ _ _ h => h) (Or.inr ⟨by rfl, rfl⟩) ?_
        (try simp only [Act.put, List.setIfInBounds_toArray, List.set_cons_zero, List.set_cons_succ])
        refine wpAnyE_takeL (preMod _) 15 (v := undef) rfl (by kernel_rfl) (by kernel_rfl) (by kernel_rfl) (fun _ _ _ h => h) (Or.inr ⟨by rfl, rfl⟩) ?_
        (try simp only [Act.put, List.setIfInBounds_toArray, List.set_cons_zero, List.set_cons_succ])
        refine wpAnyE_takeL (preMod _) 16 (v := undef) rfl (by kernel_rfl) (by kernel_rfl) (by kernel_rfl) (fun _ _ _ h => h) (Or.inr ⟨by rfl, rfl⟩) ?_
        (try simp only [Act.put, List.setIfInBounds_toArray, List.set_cons_zero, List.set_cons_succ])
        refine wpAnyE_takeL (preMod _) 17 (v := undef) rfl (by kernel_rfl) (by kernel_rfl) (by kernel_rfl) (fun _ _ _ h => h) (Or.inr ⟨by rfl, rfl⟩) ?_
        (try simp only [Act.put, List.setIfInBounds_toArray, List.set_cons_zero, List.set_cons_succ])
        refine wpAnyE_takeL (preMod _) 18 (v := ?_) rfl (by kernel_rfl) (by kernel_rfl) (by kernel_rfl) (fun _ _ _ h => h) (Or.inl ⟨by rfl, ?_⟩) ?_
        rotate_left; (intro W hW; (try dsimp only at hW); go_simp; try with_reducible rfl)
        (try simp only [Act.put, List.setIfInBounds_toArray, List.set_cons_zero, List.set_cons_succ])
        refine wpAnyE_done (by kernel_rfl) ?_ _
        go_wp2_with fail
        refine (fixed_any _).mono ?_
        rintro e' w10 ⟨rfl, hm10⟩
        go_wp2_with fail
        go_ret
        exact ⟨rfl, HM4.out.trans (hw0.trans hm10)⟩
end Go.Proofs.Ytdiplliemdogfaa
