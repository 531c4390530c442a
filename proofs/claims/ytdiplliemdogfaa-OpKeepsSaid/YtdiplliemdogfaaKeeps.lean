import Derived.Test.YtdiplliemdogfaaKeepL
import Derived.Test.YtdiplliemdogfaaPuts
set_option linter.unusedVariables false
set_option linter.unusedSimpArgs false
set_option maxRecDepth 20000
set_option maxHeartbeats 1600000
namespace Go.Proofs.Ytdiplliemdogfaa
open Go.RowKit

def markOp : GOp := ⟨-7, ⟨#[109, 97, 114, 107]⟩, ⟨#[]⟩, 0, GIdent.zero⟩
/-- the state of the law: a list of its own with two marks behind it, a mark, the caller's list, a writer -/
def KS (w : World) (ga ca q gl : Nat) (vl : Value) (l own : List GOp) (p : Nat) (wr : World) : Prop :=
  OwnO wr (.slice (some ⟨ga, 0, none⟩) (own.length + 2) ca) (own ++ [markOp, markOp]) ∧ OpV wr q markOp ∧ OS wr gl vl l ∧ OutB wr p [p] [] ∧ Mod [] w wr ∧
  (w.heap.size ≤ ga ∧ w.heap.size ≤ q ∧ w.heap.size ≤ p ∧ ga ≠ q ∧ ga ≠ p ∧ q ≠ p ∧ (0 < l.length → gl < w.heap.size))
theorem KS.mod {w wr w' : World} {ga ca q gl p : Nat} {vl : Value} {l own : List GOp} {S : List Nat} (h : KS w ga ca q gl vl l own p wr) (hm : Mod S wr w') (hS : ∀ b ∈ S, b ≠ ga ∧ b ≠ q ∧ b ≠ p ∧ w.heap.size ≤ b) : KS w ga ca q gl vl l own p w' := by
  obtain ⟨k1, k2, k3, k4, k5, j1, j2, j3, j4, j5, j6, j7⟩ := h
  refine ⟨k1.mod hm (fun b hb h1 => ?_), Blk.mod k2 hm (fun h1 => (hS _ h1).2.1 rfl), k3.mod hm (fun h0 h1 => ?_), k4.mod hm (fun b hb h1 => ?_), k5.then hm (fun b hb => .inr (hS b hb).2.2.2), j1, j2, j3, j4, j5, j6, j7⟩
  · simp [blks, Value.ownBlock] at hb
    exact (hS _ h1).1 hb
  · have := (hS _ h1).2.2.2
    have := j7 h0
    omega
  · simp at hb
    exact (hS _ h1).2.2.1 hb
theorem KS.item {w wr : World} {ga ca q gl p : Nat} {vl : Value} {l own : List GOp} (h : KS w ga ca q gl vl l own p wr) (i : Nat) (hi : i < own.length + 2) : OpAt wr ga (i * 37) ((own ++ [markOp, markOp])[i]'(by simp; omega)) := by
  obtain ⟨g', hos, hg'⟩ := h.1.os
  obtain ⟨off, cap, hv, _, _, _, hA⟩ := hos.item (by simp)
  injection hv with hv1
  injection hv1 with hv1
  injection hv1 with hv1 hv2
  have := hA i (by simp; omega)
  rw [← hv1, ← hv2, Nat.zero_add] at this
  exact this
theorem KS.set {w wr : World} {ga ca q gl p : Nat} {vl : Value} {l own : List GOp} (h : KS w ga ca q gl vl l own p wr) {i j : Nat} {u : Value} {o' : GOp} (hi : i < own.length) (hj : j < 37) (he : o'.cells = own[i].cells.set j u) : KS w ga ca q gl vl l (own.set i o') p (wr.setCell ⟨ga, i * 37 + j, none⟩ u) := by
  obtain ⟨k1, k2, k3, k4, k5, j1, j2, j3, j4, j5, j6, j7⟩ := h
  have hm : Mod [ga] wr (wr.setCell ⟨ga, i * 37 + j, none⟩ u) := (Mod.refl [ga] wr).setCell _ (by simp) _
  have h1 := k1.setCell (i := i) (j := j) (u := u) (o' := o') (by simp; omega) hj (by rw [List.getElem_append_left hi]; exact he)
  rw [List.set_append_left _ _ hi] at h1
  refine ⟨by rw [List.length_set]; exact h1, Blk.mod k2 hm (by simp; omega), k3.mod hm (fun h0 => by have := j7 h0; simp; omega), k4.mod hm (by simp; omega), k5.then hm (by simp; omega), j1, j2, j3, j4, j5, j6, j7⟩
theorem OS.mod' {w w' : World} {g : Nat} {v : Value} {l : List GOp} {S : List Nat} (h : OS w g v l) (hm : Mod S w w') (hg : 0 < l.length → g ∉ S) : OS w' g v l := h.mod hm hg
theorem keeps_any (l : List GOp) (gl : Nat) (vl : Value) (xs : Bytes) (g : Nat) (sv : Value) (w : World) (hl : OS w gl vl l) (hn : ∀ o ∈ l, o.nums) (hlen : l.length ≤ 1700000000000) (hks : ∀ o ∈ l, o.key.size ≤ 4611686018427387904) (hs : BS w g sv xs) (hz : xs.length ≤ 140737488355328) :
    Calls Try.prog 7 #[vl, sv] w fun e w' => e = .returned (.bool true) ∧ Mod [] w w' := by
  obtain ⟨A, cap, rfl, hc1, hc2⟩ := hl.val
  obtain ⟨B, capb, rfl, hd1, hd2⟩ := hs.val
  have HL := Lib.hid hl; clear hl
  have HS := Lib.hid hs; clear hs
  have HN := Lib.hid hn; clear hn
  have HZ := Lib.hid hz; clear hz
  have HLE := Lib.hid hlen
  have HKS := Lib.hid hks; clear hks
  go_enter Try.func7, Try.ntmps7
  go_upto_region 2 with (first | ((with_reducible refine wpList_alloc_op rfl ?hgd ?_); (case hgd => exact rfl); intro q w1 hv1 hm1 hg1 hl1; have HV1 := Lib.hid hv1; have HM1 := Lib.hid hm1; have HG1 := Lib.hid (And.intro hg1 hl1); clear hv1 hm1 hg1 hl1) | ((with_reducible refine wpList_store_opV (o := markOp) _ _ rfl ?hgd ?hx ?hy HV1.out ?_); (case hgd => exact rfl); (case hx => exact rfl); (case hy => exact rfl); intro w2 hb2 hm2; have HV2 := Lib.hid hb2; have HM2 : Hid (Mod [] w w2) := Lib.hid (HM1.out.then hm2 (by have := HG1.out; simp; omega)); clear hb2 hm2))
  (try simp only [Act.put, List.setIfInBounds_toArray, List.set_cons_zero, List.set_cons_succ])
  go_cut [6] from 17 (fun s6 w' => ∃ A n c, s6 = .slice A n c ∧ Hid (OwnO w' (.slice A n c) (l ++ [markOp, markOp])) ∧ Hid (Mod [] w2 w') ∧ Hid (∀ b ∈ blks (.slice A n c), w2.heap.size ≤ b))
  case first =>
    have HOS : Hid (∀ W, From w2.heap.size w2 W → OS W gl (.slice A l.length cap) l) := Lib.hid (fun W hW => HL.out.mod (HM2.out.trans hW.new) (by simp))
    have hlo : ∀ W, From w2.heap.size w2 W → CellsAt W q 0 markOp.cells := fun W hW => CellsAt.of_blk (Blk.mod HV2.out hW.new (by simp))
    obtain ⟨n0, hn0⟩ : ∃ n0, w2.heap.size = n0 := ⟨_, rfl⟩
    rw [hn0] at HOS hlo
    have HF : Hid (From n0 w2 w2.drew) := Lib.hid (From.of (Mod.refl [] w2).drew (by simp))
    have hw0 : From n0 w2 w2.drew := HF.out
    have HN0 := Lib.hid hn0
    refine wp_regionE (From n0) (by kernel_rfl) ?_
    simp only [List.size_toArray, List.length_cons, List.length_nil, Nat.zero_add, Nat.reduceAdd]
    refine wpAnyE_takeL (preFrom n0) 0 (v := ?_) rfl (by kernel_rfl) (by kernel_rfl) (by kernel_rfl) (fun _ _ _ h => h) (Or.inl ⟨by rfl, ?_⟩) ?_
    rotate_left; (intro W hW; (try dsimp only at hW); go_simp; try with_reducible rfl)
    (try simp only [Act.put, List.setIfInBounds_toArray, List.set_cons_zero, List.set_cons_succ])
    refine wpAnyE_takeL (preFrom n0) 2 (v := ?_) rfl (by kernel_rfl) (by kernel_rfl) (by kernel_rfl) (fun _ _ _ h => h) (Or.inl ⟨by rfl, ?_⟩) ?_
    rotate_left; (intro W hW; (try dsimp only at hW); refine (run_load_cells rtOp (.tmp 5) (by rfl) (by rfl) (GOp.cells_length _) (hlo W (hw0.trans hW))).trans ?_; try with_reducible rfl)
    (try simp only [Act.put, List.setIfInBounds_toArray, List.set_cons_zero, List.set_cons_succ])
    refine wpAnyE_takeL (preFrom n0) 3 (v := ?_) rfl (by kernel_rfl) (by kernel_rfl) (by kernel_rfl) (fun _ _ _ h => h) (Or.inl ⟨by rfl, ?_⟩) ?_
    rotate_left; (intro W hW; (try dsimp only at hW); refine (run_load_cells rtOp (.tmp 5) (by rfl) (by rfl) (GOp.cells_length _) (hlo W (hw0.trans hW))).trans ?_; try with_reducible rfl)
    (try simp only [Act.put, List.setIfInBounds_toArray, List.set_cons_zero, List.set_cons_succ])
    refine wpAnyE_ready (rs := [1, 4]) (by kernel_rfl) (by simp) ?_
    refine AllReadyE.consL rfl (fun K hK => ?_) ?_
    · rw [if_pos (by rfl)]
      refine opwp_of_list rfl (fun Q' hQ' => ?_)
      refine wpList_append_ops rfl _ _ (by rfl) (OwnO.nil _) (by rfl) (HOS.out _ HF.out) (by rfl) ?_ (by have := HLE.out; simp; omega)
      intro A1 n1 cap1 w4 ho1 hn1 hm1 hb1
      refine hQ' _ _ ?_
      have hmE : From n0 _ w4 := From.of hm1 (by simp [blks, Value.ownBlock])
      have HO1 := Lib.hid ho1
      have HB1 : Hid (∀ b ∈ blks (.slice A1 n1 cap1), n0 ≤ b) := Lib.hid (fun b hb => by rcases hb1.out b hb with h1 | h1; (simp [blks, Value.ownBlock] at h1); have := HF.out.size; have := HN0.out; omega)
      (try have HS2new := Lib.hid (HS2.out.mod hm1 (by simp [blks, Value.ownBlock])); clear HS2; have HS2 := HS2new; clear HS2new)
      have HFnew := Lib.hid (HF.out.trans hmE); clear HF; have HF := HFnew; clear HFnew
      clear ho1 hm1 hb1 hn1
      refine hK.out _ _ (by first | exact hmE | exact Mod.refl _ _ | exact (Mod.refl _ _).alloc _) ?_
      clear hK
      (try simp only [Act.put, List.setIfInBounds_toArray, List.set_cons_zero, List.set_cons_succ])
      refine wpAnyE_ready (rs := [4]) (by kernel_rfl) (by simp) ?_
      refine AllReadyE.consL rfl (fun K hK => ?_) AllReadyE.nil
      rw [if_pos (by rfl)]
      refine opwp_of_list rfl (fun Q' hQ' => ?_)
      refine wpList_buildSlice2_op (o := markOp) (o' := markOp) _ _ (by rfl) rfl (by rfl) (by rfl) ?_
      intro g2 w5 hs2 hm2 hg2 hl2
      refine hQ' _ _ ?_
      have hmE : From n0 _ w5 := From.of hm2 (by simp)
      have HS2 := Lib.hid hs2
      (try have HO1new := Lib.hid (HO1.out.mod hm2 (by simp)); clear HO1; have HO1 := HO1new; clear HO1new)
      have HFnew := Lib.hid (HF.out.trans hmE); clear HF; have HF := HFnew; clear HFnew
      clear hs2 hm2 hg2 hl2
      refine hK.out _ _ (by first | exact hmE | exact Mod.refl _ _ | exact (Mod.refl _ _).alloc _) ?_
      clear hK
      (try simp only [Act.put, List.setIfInBounds_toArray, List.set_cons_zero, List.set_cons_succ])
      refine wpAnyE_ready (rs := [5]) (by kernel_rfl) (by simp) ?_
      refine AllReadyE.consL rfl (fun K hK => ?_) AllReadyE.nil
      rw [if_pos (by rfl)]
      refine opwp_of_list rfl (fun Q' hQ' => ?_)
      refine wpList_append_ops rfl _ _ (by rfl) HO1.out (by rfl) HS2.out (by rfl) ?_ (by have := HLE.out; simp; omega)
      intro A4 n4 cap4 w6 ho4 hn4 hm4 hb4
      have HB4 : Hid (∀ b ∈ blks (.slice A4 n4 cap4), n0 ≤ b) := Lib.hid (fun b hb => by rcases hb4.out b hb with h1 | h1; (exact HB1.out b h1); have := HF.out.size; have := HN0.out; omega)
      refine hQ' _ _ ?_
      have hmE : From n0 _ w6 := From.of hm4 HB1.out
      have HO4 := Lib.hid ho4
      have HFnew := Lib.hid (HF.out.trans hmE); clear HF; have HF := HFnew; clear HFnew
      clear ho4 hm4 hb4 hn4
      refine hK.out _ _ (by first | exact hmE | exact Mod.refl _ _ | exact (Mod.refl _ _).alloc _) ?_
      clear hK
      (try simp only [Act.put, List.setIfInBounds_toArray, List.set_cons_zero, List.set_cons_succ])
      refine wpAnyE_takeL (preFrom n0) 6 (v := ?_) rfl (by kernel_rfl) (by kernel_rfl) (by kernel_rfl) (fun _ _ _ h => h) (Or.inl ⟨by rfl, ?_⟩) ?_
      rotate_left; (intro W hW; (try dsimp only at hW); go_simp; try with_reducible rfl)
      (try simp only [Act.put, List.setIfInBounds_toArray, List.set_cons_zero, List.set_cons_succ])
      refine wpAnyE_done (by kernel_rfl) ?_ _
      go_wp2
      go_meet
      case rel => exact ⟨A4, n4, cap4, rfl, HO4, Lib.hid (by have h := HF.out; rw [← HN0.out] at h; exact h.new), Lib.hid (by rw [HN0.out]; exact HB4.out)⟩
    refine AllReadyE.consL rfl (fun K hK => ?_) ?_
    · rw [if_pos (by rfl)]
      refine opwp_of_list rfl (fun Q' hQ' => ?_)
      refine wpList_buildSlice2_op (o := markOp) (o' := markOp) _ _ (by rfl) rfl (by rfl) (by rfl) ?_
      intro g2 w5 hs2 hm2 hg2 hl2
      refine hQ' _ _ ?_
      have hmE : From n0 _ w5 := From.of hm2 (by simp)
      have HS2 := Lib.hid hs2
      (try have HO1new := Lib.hid (HO1.out.mod hm2 (by simp)); clear HO1; have HO1 := HO1new; clear HO1new)
      have HFnew := Lib.hid (HF.out.trans hmE); clear HF; have HF := HFnew; clear HFnew
      clear hs2 hm2 hg2 hl2
      refine hK.out _ _ (by first | exact hmE | exact Mod.refl _ _ | exact (Mod.refl _ _).alloc _) ?_
      clear hK
      (try simp only [Act.put, List.setIfInBounds_toArray, List.set_cons_zero, List.set_cons_succ])
      refine wpAnyE_ready (rs := [1]) (by kernel_rfl) (by simp) ?_
      refine AllReadyE.consL rfl (fun K hK => ?_) AllReadyE.nil
      rw [if_pos (by rfl)]
      refine opwp_of_list rfl (fun Q' hQ' => ?_)
      refine wpList_append_ops rfl _ _ (by rfl) (OwnO.nil _) (by rfl) (HOS.out _ HF.out) (by rfl) ?_ (by have := HLE.out; simp; omega)
      intro A1 n1 cap1 w4 ho1 hn1 hm1 hb1
      refine hQ' _ _ ?_
      have hmE : From n0 _ w4 := From.of hm1 (by simp [blks, Value.ownBlock])
      have HO1 := Lib.hid ho1
      have HB1 : Hid (∀ b ∈ blks (.slice A1 n1 cap1), n0 ≤ b) := Lib.hid (fun b hb => by rcases hb1.out b hb with h1 | h1; (simp [blks, Value.ownBlock] at h1); have := HF.out.size; have := HN0.out; omega)
      (try have HS2new := Lib.hid (HS2.out.mod hm1 (by simp [blks, Value.ownBlock])); clear HS2; have HS2 := HS2new; clear HS2new)
      have HFnew := Lib.hid (HF.out.trans hmE); clear HF; have HF := HFnew; clear HFnew
      clear ho1 hm1 hb1 hn1
      refine hK.out _ _ (by first | exact hmE | exact Mod.refl _ _ | exact (Mod.refl _ _).alloc _) ?_
      clear hK
      (try simp only [Act.put, List.setIfInBounds_toArray, List.set_cons_zero, List.set_cons_succ])
      refine wpAnyE_ready (rs := [5]) (by kernel_rfl) (by simp) ?_
      refine AllReadyE.consL rfl (fun K hK => ?_) AllReadyE.nil
      rw [if_pos (by rfl)]
      refine opwp_of_list rfl (fun Q' hQ' => ?_)
      refine wpList_append_ops rfl _ _ (by rfl) HO1.out (by rfl) HS2.out (by rfl) ?_ (by have := HLE.out; simp; omega)
      intro A4 n4 cap4 w6 ho4 hn4 hm4 hb4
      have HB4 : Hid (∀ b ∈ blks (.slice A4 n4 cap4), n0 ≤ b) := Lib.hid (fun b hb => by rcases hb4.out b hb with h1 | h1; (exact HB1.out b h1); have := HF.out.size; have := HN0.out; omega)
      refine hQ' _ _ ?_
      have hmE : From n0 _ w6 := From.of hm4 HB1.out
      have HO4 := Lib.hid ho4
      have HFnew := Lib.hid (HF.out.trans hmE); clear HF; have HF := HFnew; clear HFnew
      clear ho4 hm4 hb4 hn4
      refine hK.out _ _ (by first | exact hmE | exact Mod.refl _ _ | exact (Mod.refl _ _).alloc _) ?_
      clear hK
      (try simp only [Act.put, List.setIfInBounds_toArray, List.set_cons_zero, List.set_cons_succ])
      refine wpAnyE_takeL (preFrom n0) 6 (v := ?_) rfl (by kernel_rfl) (by kernel_rfl) (by kernel_rfl) (fun _ _ _ h => h) (Or.inl ⟨by rfl, ?_⟩) ?_
      rotate_left; (intro W hW; (try dsimp only at hW); go_simp; try with_reducible rfl)
      (try simp only [Act.put, List.setIfInBounds_toArray, List.set_cons_zero, List.set_cons_succ])
      refine wpAnyE_done (by kernel_rfl) ?_ _
      go_wp2
      go_meet
      case rel => exact ⟨A4, n4, cap4, rfl, HO4, Lib.hid (by have h := HF.out; rw [← HN0.out] at h; exact h.new), Lib.hid (by rw [HN0.out]; exact HB4.out)⟩
    exact AllReadyE.nil
  case rest =>
    obtain ⟨Aa, na, ca, rfl, HOA, HMA, HBA⟩ := hcut
    obtain ⟨_, _, hx1, hcc1, hcc2⟩ := HOA.out.val
    injection hx1 with hx1 hx2 hx3
    subst hx1 hx2 hx3
    obtain ⟨ga, rfl⟩ := HOA.out.c.ptr (by simp)
    have HOW := Lib.hid HOA.out.cut
    have hsl1 : l.length ≤ ca := by simp at hcc1; omega
    unfold maxLen at hcc2
    have HGA : Hid (w2.heap.size ≤ ga) := Lib.hid (HBA.out ga (by simp [blks, Value.ownBlock]))
    clear HBA hc1 hc2 hd1 hd2
    have hl2 : (l ++ [markOp, markOp]).length = l.length + 2 := by simp
    rw [hl2] at HOA hcc1 ⊢
    go_upto_region 4 with fail
    clear hl2
    go_wp2_with fail
    refine (newOut_any wc).mono ?_
    rintro e' w4 ⟨rfl, hO4, hm4⟩
    have HO4 := Lib.hid hO4
    have HM4 := Lib.hid hm4
    clear hO4 hm4
    go_wp2_with fail
    refine (newOut_any w4).mono ?_
    rintro e' w5 ⟨rfl, hO5, hm5⟩
    have hwc := HO4.out.choose_spec.1.lt
    have HK : Hid (KS w ga ca q gl (.slice A l.length cap) l l w4.heap.size w5) := Lib.hid (by
      have hq := HV2.out.lt
      have hg1 := HG1.out.1
      have hgl : 0 < l.length → gl < w.heap.size := fun h0 => by obtain ⟨_, _, _, _, _, hl', _⟩ := HL.out.at_ h0; exact hl'
      have hgal := (HOA.out.frozen).2
      have hmw := HM2.out.size
      have h1 := HMA.out.size
      have h2 := HM4.out.size
      have h3 := HGA.out
      refine ⟨(HOA.out.mod HM4.out (by simp)).mod hm5 (by simp), Blk.mod HV2.out ((HMA.out.trans HM4.out).trans hm5) (by simp), HL.out.mod (((HM2.out.trans HMA.out).trans HM4.out).trans hm5) (by simp), hO5, ((HM2.out.trans HMA.out).trans HM4.out).trans hm5, ?_⟩
      refine ⟨by omega, by omega, by omega, by omega, by omega, by omega, hgl⟩)
    have HO5 := Lib.hid (HO4.out.mod hm5 (by simp))
    have HP : Hid (wc.heap.size < w4.heap.size ∧ ga ≠ wc.heap.size ∧ q ≠ wc.heap.size ∧ w.heap.size ≤ wc.heap.size) := Lib.hid (by
      have hgal := (HOA.out.frozen).2
      have hq := HV2.out.lt
      have h1 := HMA.out.size
      have hmw := HM2.out.size
      refine ⟨hwc, by omega, by omega, by omega⟩)
    have HSL : Hid (BS w g (.slice B xs.length capb) xs) := HS
    obtain ⟨o, ho⟩ : ∃ o, wc.heap.size = o := ⟨_, rfl⟩
    obtain ⟨p, hp⟩ : ∃ p, w4.heap.size = p := ⟨_, rfl⟩
    rw [ho] at HO5 HP ⊢
    rw [hp] at HP HK ⊢
    clear ho hp hO5 HO4 hm5 HM4 HMA HOA HOW HGA HV1 HM1 HG1 HV2 HM2 HL hwc
    have HOW := Lib.hid (OwnO.cut HK.out.1)
    obtain ⟨gx, hsx, hgx⟩ := HOW.out.os
    have hgx2 : 0 < l.length → gx = ga := fun h0 => by have := hgx h0; simp [blks, Value.ownBlock] at this; exact this
    have HPUT := Lib.hid (put_any l gx _ o [o] [] w5 HO5.out hsx (fun h0 h1 => by have := hgx2 h0; have := HP.out; simp at h1; omega) HN.out (by simp))
    have hpo : o ≠ p := by have := HP.out; omega
    go_wp2_with fail
    refine HPUT.out.mono ?_
    rintro e' w6 ⟨rfl, F6, _, hm6, _⟩
    have HKnew := Lib.hid (HK.out.mod hm6 (fun b hb => by simp at hb; subst hb; have := HP.out; omega)); clear HK; have HK := HKnew; clear HKnew
    clear hm6 HPUT HO5 hsx hgx hgx2 HOW HP
    have HOW := Lib.hid (OwnO.cut HK.out.1)
    obtain ⟨gx, hsx, hgx⟩ := HOW.out.os
    have HCH := Lib.hid (check_any l gx _ w6 hsx)
    go_wp2_with fail
    refine HCH.out.mono ?_
    rintro e' w7 ⟨rfl, hm7⟩
    have HKnew := Lib.hid (HK.out.mod hm7 (by simp)); clear HK; have HK := HKnew; clear HKnew
    clear hm7 HCH hsx hgx HOW
    go_upto_region 10 with fail
    have HPP := Lib.hid hpo
    clear hpo
    have hw0 : Mod [] w7 w7.drew := (Mod.refl _ w7).drew
    have HW : Hid (∀ W, Mod [] w7 W → KS w ga ca q gl (.slice A l.length cap) l l p W) := Lib.hid (fun W hW => HK.out.mod hW (by simp))
    have hq : ∀ W, Mod [] w7 W → CellsAt W q 0 markOp.cells := fun W hW => CellsAt.of_blk (HW.out W hW).2.1
    have hk1 : ∀ W, Mod [] w7 W → CellsAt W ga (l.length * 37) markOp.cells := fun W hW => by
      have h := (HW.out W hW).item l.length (by omega)
      rw [List.getElem_append_right (by omega)] at h
      simp at h
      exact h
    have hk2 : ∀ W, Mod [] w7 W → CellsAt W ga ((l.length + 1) * 37) markOp.cells := fun W hW => by
      have h := (HW.out W hW).item (l.length + 1) (by omega)
      rw [List.getElem_append_right (by omega)] at h
      simp at h
      exact h
    have HF : Hid (Mod [] w7 w7.drew) := Lib.hid hw0
    have HWR : Hid (Value.int .i64 (IntKind.i64.wrap ((l.length : Int) + 1)) = .int .i64 ((l.length + 1 : Nat) : Int)) := Lib.hid (by rw [IntWalk.i64_in _ (by omega)]; rfl)
    have HSE : Hid (∀ W, Mod [] w7 W → Calls Try.prog 26 #[.slice (some ⟨ga, 0, none⟩) l.length ca, .slice A l.length cap] W fun e' w' => e' = .returned (.bool true) ∧ Mod [] W w') := Lib.hid (fun W hW => by
      obtain ⟨gx, hsx, _⟩ := (OwnO.cut (HW.out W hW).1).os
      have hsl := refSameList_any l l gx gl _ _ W hsx (HW.out W hW).2.2.1
      rw [decide_eq_true (rfl : l = l)] at hsl
      exact hsl)
    have HSM : Hid (∀ W, Calls Try.prog 16 #[.agg markOp.cells.toArray, .agg markOp.cells.toArray] W fun e' w' => e' = .returned (.bool true) ∧ Mod [] W w') := Lib.hid (fun W => by
      have h := refSame_any markOp markOp W
      rw [show (markOp == markOp) = true from by simp] at h
      exact h)
    refine wp_regionE (Mod []) (by kernel_rfl) ?_
    simp only [List.size_toArray, List.length_cons, List.length_nil, Nat.zero_add, Nat.reduceAdd]
    refine wpAnyE_takeL (preMod _) 0 (v := ?_) rfl (by kernel_rfl) (by kernel_rfl) (by kernel_rfl) (fun _ _ _ h => h) (Or.inl ⟨by rfl, ?_⟩) ?_
    rotate_left; (intro W hW; (try dsimp only at hW); go_simp; try with_reducible rfl)
    (try simp only [Act.put, List.setIfInBounds_toArray, List.set_cons_zero, List.set_cons_succ])
    refine wpAnyE_takeL (preMod _) 1 (v := ?_) rfl (by kernel_rfl) (by kernel_rfl) (by kernel_rfl) (fun _ _ _ h => h) (Or.inl ⟨by rfl, ?_⟩) ?_
    rotate_left; (intro W hW; (try dsimp only at hW); go_simp; try with_reducible rfl)
    (try simp only [Act.put, List.setIfInBounds_toArray, List.set_cons_zero, List.set_cons_succ])
    refine wpAnyE_takeL (preMod _) 2 (v := ?_) rfl (by kernel_rfl) (by kernel_rfl) (by kernel_rfl) (fun _ _ _ h => h) (Or.inl ⟨by rfl, ?_⟩) ?_
    rotate_left; (intro W hW; (try dsimp only at hW); go_simp; try with_reducible rfl)
    (try simp only [Act.put, List.setIfInBounds_toArray, List.set_cons_zero, List.set_cons_succ])
    refine wpAnyE_takeL (preMod _) 3 (v := ?_) rfl (by kernel_rfl) (by kernel_rfl) (by kernel_rfl) (fun _ _ _ h => h) (Or.inl ⟨by rfl, ?_⟩) ?_
    rotate_left; (intro W hW; (try dsimp only at hW); go_simp; try with_reducible rfl)
    (try simp only [Act.put, List.setIfInBounds_toArray, List.set_cons_zero, List.set_cons_succ])
    refine wpAnyE_takeL (preMod _) 4 (v := ?_) rfl (by kernel_rfl) (by kernel_rfl) (by kernel_rfl) (fun _ _ _ h => h) (Or.inl ⟨by rfl, ?_⟩) ?_
    rotate_left; (intro W hW; (try dsimp only at hW); go_simp; try with_reducible rfl)
    (try simp only [Act.put, List.setIfInBounds_toArray, List.set_cons_zero, List.set_cons_succ])
    refine wpAnyE_takeL (preMod _) 5 (v := ?_) rfl (by kernel_rfl) (by kernel_rfl) (by kernel_rfl) (fun _ _ _ h => h) (Or.inl ⟨by rfl, ?_⟩) ?_
    rotate_left; (intro W hW; (try dsimp only at hW); go_simp; try with_reducible rfl)
    (try simp only [Act.put, List.setIfInBounds_toArray, List.set_cons_zero, List.set_cons_succ])
    refine wpAnyE_ready (rs := [6]) (by kernel_rfl) (by simp) ?_
    refine AllReadyE.consL rfl (fun K hK => ?_) AllReadyE.nil
    rw [if_pos (by rfl)]
    go_simp
    go_at_call 26
    refine (HSE.out _ HF.out).mono ?_
    rintro e' w8 ⟨rfl, hm8⟩
    have hmE := hm8
    have HFnew := Lib.hid (HF.out.trans hm8); clear HF; have HF := HFnew; clear HFnew
    go_wp2_with fail
    refine hK.out _ _ (by first | exact hmE | exact Mod.refl _ _ | exact (Mod.refl _ _).alloc _) ?_
    clear hK
    (try simp only [Act.put, List.setIfInBounds_toArray, List.set_cons_zero, List.set_cons_succ])
    refine wpAnyE_takeL (preMod _) 7 (v := ?_) rfl (by kernel_rfl) (by kernel_rfl) (by kernel_rfl) (fun _ _ _ h => h) (Or.inl ⟨by rfl, ?_⟩) ?_
    rotate_left; (intro W hW; (try dsimp only at hW); go_simp; try with_reducible rfl)
    (try simp only [Act.put, List.setIfInBounds_toArray, List.set_cons_zero, List.set_cons_succ])
    refine wpAnyE_takeL (preMod _) 8 (v := ?_) rfl (by kernel_rfl) (by kernel_rfl) (by kernel_rfl) (fun _ _ _ h => h) (Or.inl ⟨by rfl, ?_⟩) ?_
    rotate_left; (intro W hW; (try dsimp only at hW); go_simp; try with_reducible rfl)
    (try simp only [Act.put, List.setIfInBounds_toArray, List.set_cons_zero, List.set_cons_succ])
    refine wpAnyE_takeL (preMod _) 9 (v := ?_) rfl (by kernel_rfl) (by kernel_rfl) (by kernel_rfl) (fun _ _ _ h => h) (Or.inl ⟨by rfl, ?_⟩) ?_
    rotate_left; (intro W hW; (try dsimp only at hW); go_simp; try with_reducible rfl)
    (try simp only [Act.put, List.setIfInBounds_toArray, List.set_cons_zero, List.set_cons_succ])
    refine wpAnyE_takeL (preMod _) 10 (v := ?_) rfl (by kernel_rfl) (by kernel_rfl) (by kernel_rfl) (fun _ _ _ h => h) (Or.inl ⟨by rfl, ?_⟩) ?_
    rotate_left; (intro W hW; (try dsimp only at hW); go_simp; try with_reducible rfl)
    (try simp only [Act.put, List.setIfInBounds_toArray, List.set_cons_zero, List.set_cons_succ])
    refine wpAnyE_takeL (preMod _) 11 (v := ?_) rfl (by kernel_rfl) (by kernel_rfl) (by kernel_rfl) (fun _ _ _ h => h) (Or.inl ⟨by rfl, ?_⟩) ?_
    rotate_left; (intro W hW; (try dsimp only at hW); go_simp; try with_reducible rfl)
    (try simp only [Act.put, List.setIfInBounds_toArray, List.set_cons_zero, List.set_cons_succ])
    refine wpAnyE_takeL (preMod _) 12 (v := ?_) rfl (by kernel_rfl) (by kernel_rfl) (by kernel_rfl) (fun _ _ _ h => h) (Or.inl ⟨by rfl, ?_⟩) ?_
    rotate_left; (intro W hW; (try dsimp only at hW); go_simp; try with_reducible rfl)
    (try simp only [Act.put, List.setIfInBounds_toArray, List.set_cons_zero, List.set_cons_succ])
    refine wpAnyE_takeL (preMod _) 13 (v := ?_) rfl (by kernel_rfl) (by kernel_rfl) (by kernel_rfl) (fun _ _ _ h => h) (Or.inl ⟨by rfl, ?_⟩) ?_
    rotate_left; (intro W hW; (try dsimp only at hW); (go_simp; rw [if_pos (by omega)]); try with_reducible rfl)
    (try simp only [Act.put, List.setIfInBounds_toArray, List.set_cons_zero, List.set_cons_succ])
    refine wpAnyE_takeL (preMod _) 14 (v := ?_) rfl (by kernel_rfl) (by kernel_rfl) (by kernel_rfl) (fun _ _ _ h => h) (Or.inl ⟨by rfl, ?_⟩) ?_
    rotate_left; (intro W hW; (try dsimp only at hW); refine (run_load_cells rtOp (.tmp 57) (by rfl) (by rfl) (GOp.cells_length _) (hk1 W (HF.out.trans hW))).trans ?_; try with_reducible rfl)
    (try simp only [Act.put, List.setIfInBounds_toArray, List.set_cons_zero, List.set_cons_succ])
    refine wpAnyE_takeL (preMod _) 15 (v := ?_) rfl (by kernel_rfl) (by kernel_rfl) (by kernel_rfl) (fun _ _ _ h => h) (Or.inl ⟨by rfl, ?_⟩) ?_
    rotate_left; (intro W hW; (try dsimp only at hW); refine (run_load_cells rtOp (.tmp 5) (by rfl) (by rfl) (GOp.cells_length _) (hq W (HF.out.trans hW))).trans ?_; try with_reducible rfl)
    (try simp only [Act.put, List.setIfInBounds_toArray, List.set_cons_zero, List.set_cons_succ])
    refine wpAnyE_ready (rs := [16]) (by kernel_rfl) (by simp) ?_
    refine AllReadyE.consL rfl (fun K hK => ?_) AllReadyE.nil
    rw [if_pos (by rfl)]
    go_simp
    go_at_call 16
    refine (HSM.out _).mono ?_
    rintro e' w9 ⟨rfl, hm9⟩
    have hmE := hm9
    have HFnew := Lib.hid (HF.out.trans hm9); clear HF; have HF := HFnew; clear HFnew
    go_wp2_with fail
    refine hK.out _ _ (by first | exact hmE | exact Mod.refl _ _ | exact (Mod.refl _ _).alloc _) ?_
    clear hK
    (try simp only [Act.put, List.setIfInBounds_toArray, List.set_cons_zero, List.set_cons_succ])
    refine wpAnyE_takeL (preMod _) 17 (v := ?_) rfl (by kernel_rfl) (by kernel_rfl) (by kernel_rfl) (fun _ _ _ h => h) (Or.inl ⟨by rfl, ?_⟩) ?_
    rotate_left; (intro W hW; (try dsimp only at hW); go_simp; try with_reducible rfl)
    (try simp only [Act.put, List.setIfInBounds_toArray, List.set_cons_zero, List.set_cons_succ])
    refine wpAnyE_takeL (preMod _) 18 (v := ?_) rfl (by kernel_rfl) (by kernel_rfl) (by kernel_rfl) (fun _ _ _ h => h) (Or.inl ⟨by rfl, ?_⟩) ?_
    rotate_left; (intro W hW; (try dsimp only at hW); go_simp; try with_reducible rfl)
    (try simp only [Act.put, List.setIfInBounds_toArray, List.set_cons_zero, List.set_cons_succ])
    refine wpAnyE_takeL (preMod _) 19 (v := ?_) rfl (by kernel_rfl) (by kernel_rfl) (by kernel_rfl) (fun _ _ _ h => h) (Or.inl ⟨by rfl, ?_⟩) ?_
    rotate_left; (intro W hW; (try dsimp only at hW); go_simp; try with_reducible rfl)
    (try simp only [Act.put, List.setIfInBounds_toArray, List.set_cons_zero, List.set_cons_succ])
    refine wpAnyE_takeL (preMod _) 20 (v := ?_) rfl (by kernel_rfl) (by kernel_rfl) (by kernel_rfl) (fun _ _ _ h => h) (Or.inl ⟨by rfl, ?_⟩) ?_
    rotate_left; (intro W hW; (try dsimp only at hW); go_simp; try with_reducible rfl)
    (try simp only [Act.put, List.setIfInBounds_toArray, List.set_cons_zero, List.set_cons_succ])
    refine wpAnyE_takeL (preMod _) 21 (v := ?_) rfl (by kernel_rfl) (by kernel_rfl) (by kernel_rfl) (fun _ _ _ h => h) (Or.inl ⟨by rfl, ?_⟩) ?_
    rotate_left; (intro W hW; (try dsimp only at hW); go_simp; try with_reducible rfl)
    (try simp only [Act.put, List.setIfInBounds_toArray, List.set_cons_zero, List.set_cons_succ])
    refine wpAnyE_takeL (preMod _) 22 (v := ?_) rfl (by kernel_rfl) (by kernel_rfl) (by kernel_rfl) (fun _ _ _ h => h) (Or.inl ⟨by rfl, ?_⟩) ?_
    rotate_left; (intro W hW; (try dsimp only at hW); go_simp; try with_reducible rfl)
    (try simp only [Act.put, List.setIfInBounds_toArray, List.set_cons_zero, List.set_cons_succ])
    refine wpAnyE_takeL (preMod _) 23 (v := ?_) rfl (by kernel_rfl) (by kernel_rfl) (by kernel_rfl) (fun _ _ _ h => h) (Or.inl ⟨by rfl, ?_⟩) ?_
    rotate_left; (intro W hW; (try dsimp only at hW); (go_simp; rw [HWR.out]); try with_reducible rfl)
    (try simp only [Act.put, List.setIfInBounds_toArray, List.set_cons_zero, List.set_cons_succ])
    refine wpAnyE_takeL (preMod _) 24 (v := ?_) rfl (by kernel_rfl) (by kernel_rfl) (by kernel_rfl) (fun _ _ _ h => h) (Or.inl ⟨by rfl, ?_⟩) ?_
    rotate_left; (intro W hW; (try dsimp only at hW); (go_simp; rw [if_pos (by omega)]); try with_reducible rfl)
    (try simp only [Act.put, List.setIfInBounds_toArray, List.set_cons_zero, List.set_cons_succ])
    refine wpAnyE_takeL (preMod _) 25 (v := ?_) rfl (by kernel_rfl) (by kernel_rfl) (by kernel_rfl) (fun _ _ _ h => h) (Or.inl ⟨by rfl, ?_⟩) ?_
    rotate_left; (intro W hW; (try dsimp only at hW); refine (run_load_cells rtOp (.tmp 68) (by rfl) (by rfl) (GOp.cells_length _) (hk2 W (HF.out.trans hW))).trans ?_; try with_reducible rfl)
    (try simp only [Act.put, List.setIfInBounds_toArray, List.set_cons_zero, List.set_cons_succ])
    refine wpAnyE_takeL (preMod _) 26 (v := ?_) rfl (by kernel_rfl) (by kernel_rfl) (by kernel_rfl) (fun _ _ _ h => h) (Or.inl ⟨by rfl, ?_⟩) ?_
    rotate_left; (intro W hW; (try dsimp only at hW); refine (run_load_cells rtOp (.tmp 5) (by rfl) (by rfl) (GOp.cells_length _) (hq W (HF.out.trans hW))).trans ?_; try with_reducible rfl)
    (try simp only [Act.put, List.setIfInBounds_toArray, List.set_cons_zero, List.set_cons_succ])
    refine wpAnyE_ready (rs := [27]) (by kernel_rfl) (by simp) ?_
    refine AllReadyE.consL rfl (fun K hK => ?_) AllReadyE.nil
    rw [if_pos (by rfl)]
    go_simp
    go_at_call 16
    refine (HSM.out _).mono ?_
    rintro e' w10 ⟨rfl, hm10⟩
    have hmE := hm10
    have HFnew := Lib.hid (HF.out.trans hm10); clear HF; have HF := HFnew; clear HFnew
    go_wp2_with fail
    refine hK.out _ _ (by first | exact hmE | exact Mod.refl _ _ | exact (Mod.refl _ _).alloc _) ?_
    clear hK
    (try simp only [Act.put, List.setIfInBounds_toArray, List.set_cons_zero, List.set_cons_succ])
    refine wpAnyE_takeL (preMod _) 28 (v := ?_) rfl (by kernel_rfl) (by kernel_rfl) (by kernel_rfl) (fun _ _ _ h => h) (Or.inl ⟨by rfl, ?_⟩) ?_
    rotate_left; (intro W hW; (try dsimp only at hW); go_simp; try with_reducible rfl)
    (try simp only [Act.put, List.setIfInBounds_toArray, List.set_cons_zero, List.set_cons_succ])
    refine wpAnyE_takeL (preMod _) 29 (v := ?_) rfl (by kernel_rfl) (by kernel_rfl) (by kernel_rfl) (fun _ _ _ h => h) (Or.inl ⟨by rfl, ?_⟩) ?_
    rotate_left; (intro W hW; (try dsimp only at hW); go_simp; try with_reducible rfl)
    (try simp only [Act.put, List.setIfInBounds_toArray, List.set_cons_zero, List.set_cons_succ])
    refine wpAnyE_done (by kernel_rfl) ?_ _
    clear hw0 hq hk1 hk2 hmE HWR HSE HSM
    have HKnew := Lib.hid (HK.out.mod HF.out (by simp)); clear HK; have HK := HKnew; clear HKnew
    clear HF HW
    go_wp2_with fail
    generalize w10 = w11 at *
    go_loopw [13] (fun s13 wr => ∃ (i : Nat) (own : List GOp), s13 = .int .i64 (i : Int) ∧ i ≤ l.length ∧ Hid (own.length = l.length ∧ own.drop i = l.drop i) ∧ Hid (∀ o ∈ own, o.nums) ∧ Hid (KS w ga ca q gl (.slice A l.length cap) l own p wr)) (fun s _ => l.length - (intOf s).toNat)
    case atStart => exact ⟨0, l, rfl, by omega, Lib.hid ⟨rfl, rfl⟩, HN, HK⟩
    case round =>
      clear HK
      obtain ⟨i, own, rfl, hi, HOL, HON, HK⟩ := hrel
      by_cases hil : i < l.length
      · have hio : i < own.length := by have := HOL.out.1; omega
        have hoi : own[i] = l[i] := by
          have h := congrArg (fun x : List GOp => x[0]?) HOL.out.2
          simpa [hio, hil] using h
        have hkz : own[i].key.size ≤ 4611686018427387904 := by rw [hoi]; exact HKS.out _ (List.getElem_mem hil)
        clear hoi
        have hit := HK.out.item i (by omega)
        rw [List.getElem_append_left hio] at hit
        have c1 := hit.key
        have c3 := hit.n
        have hfr := HK.out.1.frozen.1
        have hgl := HK.out.1.frozen.2
        clear hit
        obtain ⟨x, hx⟩ : ∃ x, own[i].key ++ (⟨#[120]⟩ : ByteArray) = x := ⟨_, rfl⟩
        have HK2 := Lib.hid (HK.out.set (i := i) (j := 1) (u := .string x) (o' := { own[i] with key := x }) hio (by omega) rfl)
        have hio2 : i < (own.set i { own[i] with key := x }).length := by simpa using hio
        have HK3 := Lib.hid (HK2.out.set (i := i) (j := 3) (u := .int .i64 0) (o' := { own[i] with key := x, n := 0 }) hio2 (by omega) (by rw [List.getElem_set_self]; rfl))
        rw [List.set_set] at HK3
        have hsz : own[i].key.size + (⟨#[120]⟩ : ByteArray).size ≤ 9223372036854775807 := by
          have : (⟨#[120]⟩ : ByteArray).size = 1 := rfl
          omega
        clear HK2 hio2 HK
        go_wp2_with fail
        go_roundw
        case rel =>
          refine ⟨i + 1, own.set i { own[i] with key := x, n := 0 }, by go_num, by omega, Lib.hid ⟨by simp; exact HOL.out.1, ?_⟩, Lib.hid (fun o ho => ?_), HK3⟩
          · rw [List.drop_set_of_lt (by omega)]
            have h := congrArg (List.drop 1) HOL.out.2
            simpa using h
          · rcases List.mem_or_eq_of_mem_set ho with h | h
            · exact HON.out o h
            · subst h; exact ⟨by simp, by simp⟩
        case measure => simp [intOf]; omega
      · have hie : i = l.length := by omega
        have HOW := Lib.hid (OwnO.cut HK.out.1)
        have hol := HOL.out.1
        rw [hol] at HOW
        obtain ⟨gx, hsx, hgx⟩ := HOW.out.os
        have hgx2 : 0 < own.length → gx = ga := fun h0 => by have := hgx h0; simp [blks, Value.ownBlock] at this; exact this
        have HGX := Lib.hid hgx2
        have HPUT := Lib.hid (put_any own gx _ p [p] [] wr HK.out.2.2.2.1 hsx (fun h0 h1 => by
          have := hgx2 h0
          obtain ⟨k1, k2, k3, k4, k5, j1, j2, j3, j4, j5, j6, j7⟩ := HK.out
          simp at h1
          omega) HON.out (by simp))
        have HSX := Lib.hid hsx
        clear hsx hgx hgx2 HOW
        go_wp2_with fail
        refine HPUT.out.mono ?_
        rintro e' w12 ⟨rfl, F12, hO12, hm12, _⟩
        have HM12 : Hid (Mod [] w w12) := Lib.hid (by obtain ⟨k1, k2, k3, k4, k5, j1, j2, j3, j4, j5, j6, j7⟩ := HK.out; exact k5.then hm12 (by simp; omega))
        have HSXnew := Lib.hid (OS.mod' HSX.out hm12 (fun h0 h1 => by have := HGX.out h0; obtain ⟨k1, k2, k3, k4, k5, j1, j2, j3, j4, j5, j6, j7⟩ := HK.out; simp at h1; omega)); clear HSX; have HSX := HSXnew; clear HSXnew
        have HO12 := Lib.hid hO12
        clear hO12 hm12 HPUT HK
        have HCH := Lib.hid (refCheck_any own gx _ w12 HSX.out)
        go_wp2_with fail
        refine HCH.out.mono ?_
        rintro e' w13 ⟨rfl, hm13⟩
        have HM12new := Lib.hid (HM12.out.trans hm13); clear HM12; have HM12 := HM12new; clear HM12new
        have HSXnew := Lib.hid (OS.mod' HSX.out hm13 (by simp)); clear HSX; have HSX := HSXnew; clear HSXnew
        have HO12new := Lib.hid (HO12.out.mod hm13 (by simp)); clear HO12; have HO12 := HO12new; clear HO12new
        clear hm13 HCH
        by_cases h0 : (checkOps own).1 = 0
        · have H0 := Lib.hid h0
          rw [if_pos h0] at HO12
          obtain ⟨Z, hZ⟩ : ∃ Z, [] ++ putOps own = Z := ⟨_, rfl⟩
          have HZL : Hid (Z.length ≤ 307200010) := Lib.hid (by rw [← hZ]; exact putOps_length own h0 HON.out)
          rw [hZ] at HO12
          rw [h0]
          have HZZ := Lib.hid hZ
          clear hZ h0
          have hw0 : Mod [] w13 w13.drew := (Mod.refl _ w13).drew
          have HF : Hid (Mod [] w13 w13.drew) := Lib.hid hw0
          have HDN : Hid (∀ W, Mod [] w13 W → Calls Try.prog 21 #[ptr p] W (DoneP W Z)) := Lib.hid (fun W hW => outDone_any p F12 Z W (HO12.out.mod hW (by simp)) (by have := HZL.out; omega))
          have HPT : Hid (∀ W, Mod [] w13 W → Calls Try.prog 20 #[.slice none 0 0, .slice (some ⟨ga, 0, none⟩) l.length ca] W (AppP W (.slice none 0 0) Z)) := Lib.hid (fun W hW => by
            have h := refPut_any (.slice none 0 0) [] own gx _ W (OwnB.nil W) (OS.mod' HSX.out hW (by simp)) (by simp [blks, Value.ownBlock]) HON.out H0.out (by simp)
            rw [HZZ.out] at h
            exact h)
          go_wp2_with fail
          refine wp_regionE (Mod []) (by kernel_rfl) ?_
          simp only [List.size_toArray, List.length_cons, List.length_nil, Nat.zero_add, Nat.reduceAdd]
          refine wpAnyE_takeL (preMod _) 0 (v := ?_) rfl (by kernel_rfl) (by kernel_rfl) (by kernel_rfl) (fun _ _ _ h => h) (Or.inl ⟨by rfl, ?_⟩) ?_
          rotate_left; (intro W hW; (try dsimp only at hW); go_simp; try with_reducible rfl)
          (try simp only [Act.put, List.setIfInBounds_toArray, List.set_cons_zero, List.set_cons_succ])
          refine wpAnyE_takeL (preMod _) 1 (v := ?_) rfl (by kernel_rfl) (by kernel_rfl) (by kernel_rfl) (fun _ _ _ h => h) (Or.inl ⟨by rfl, ?_⟩) ?_
          rotate_left; (intro W hW; (try dsimp only at hW); go_simp; try with_reducible rfl)
          (try simp only [Act.put, List.setIfInBounds_toArray, List.set_cons_zero, List.set_cons_succ])
          refine wpAnyE_takeL (preMod _) 2 (v := ?_) rfl (by kernel_rfl) (by kernel_rfl) (by kernel_rfl) (fun _ _ _ h => h) (Or.inl ⟨by rfl, ?_⟩) ?_
          rotate_left; (intro W hW; (try dsimp only at hW); go_simp; try with_reducible rfl)
          (try simp only [Act.put, List.setIfInBounds_toArray, List.set_cons_zero, List.set_cons_succ])
          refine wpAnyE_takeL (preMod _) 3 (v := ?_) rfl (by kernel_rfl) (by kernel_rfl) (by kernel_rfl) (fun _ _ _ h => h) (Or.inl ⟨by rfl, ?_⟩) ?_
          rotate_left; (intro W hW; (try dsimp only at hW); go_simp; try with_reducible rfl)
          (try simp only [Act.put, List.setIfInBounds_toArray, List.set_cons_zero, List.set_cons_succ])
          refine wpAnyE_takeL (preMod _) 4 (v := ?_) rfl (by kernel_rfl) (by kernel_rfl) (by kernel_rfl) (fun _ _ _ h => h) (Or.inl ⟨by rfl, ?_⟩) ?_
          rotate_left; (intro W hW; (try dsimp only at hW); go_simp; try with_reducible rfl)
          (try simp only [Act.put, List.setIfInBounds_toArray, List.set_cons_zero, List.set_cons_succ])
          refine wpAnyE_takeL (preMod _) 5 (v := ?_) rfl (by kernel_rfl) (by kernel_rfl) (by kernel_rfl) (fun _ _ _ h => h) (Or.inl ⟨by rfl, ?_⟩) ?_
          rotate_left; (intro W hW; (try dsimp only at hW); go_simp; try with_reducible rfl)
          (try simp only [Act.put, List.setIfInBounds_toArray, List.set_cons_zero, List.set_cons_succ])
          refine wpAnyE_takeL (preMod _) 6 (v := ?_) rfl (by kernel_rfl) (by kernel_rfl) (by kernel_rfl) (fun _ _ _ h => h) (Or.inl ⟨by rfl, ?_⟩) ?_
          rotate_left; (intro W hW; (try dsimp only at hW); go_simp; try with_reducible rfl)
          (try simp only [Act.put, List.setIfInBounds_toArray, List.set_cons_zero, List.set_cons_succ])
          refine wpAnyE_takeL (preMod _) 7 (v := ?_) rfl (by kernel_rfl) (by kernel_rfl) (by kernel_rfl) (fun _ _ _ h => h) (Or.inl ⟨by rfl, ?_⟩) ?_
          rotate_left; (intro W hW; (try dsimp only at hW); go_simp; try with_reducible rfl)
          (try simp only [Act.put, List.setIfInBounds_toArray, List.set_cons_zero, List.set_cons_succ])
          refine wpAnyE_takeL (preMod _) 10 (v := ?_) rfl (by kernel_rfl) (by kernel_rfl) (by kernel_rfl) (fun _ _ _ h => h) (Or.inl ⟨by rfl, ?_⟩) ?_
          rotate_left; (intro W hW; (try dsimp only at hW); go_simp; try with_reducible rfl)
          (try simp only [Act.put, List.setIfInBounds_toArray, List.set_cons_zero, List.set_cons_succ])
          refine wpAnyE_ready (rs := [8]) (by kernel_rfl) (by simp) ?_
          refine AllReadyE.consL rfl (fun K hK => ?_) AllReadyE.nil
          rw [if_pos (by rfl)]
          go_simp
          go_at_call 21
          refine (HDN.out _ HF.out).mono ?_
          rintro e' w14 ⟨v14, rfl, hown14, hm14, _⟩
          have hmE := hm14
          have HFnew := Lib.hid (HF.out.trans hm14); clear HF; have HF := HFnew; clear HFnew
          obtain ⟨gd, hbd, _⟩ := hown14.bs
          have hcd := conv_all hbd [] (by simp)
          go_wp2_with fail
          refine hK.out _ _ (by first | exact hmE | exact Mod.refl _ _ | exact (Mod.refl _ _).alloc _) ?_
          clear hK
          (try simp only [Act.put, List.setIfInBounds_toArray, List.set_cons_zero, List.set_cons_succ])
          refine wpAnyE_takeL (preMod _) 9 (v := ?_) rfl (by kernel_rfl) (by kernel_rfl) (by kernel_rfl) (fun _ _ _ h => h) (Or.inl ⟨by rfl, ?_⟩) ?_
          rotate_left; (intro W hW; (try dsimp only at hW); (have hcw := hcd W hW; go_simp); try with_reducible rfl)
          (try simp only [Act.put, List.setIfInBounds_toArray, List.set_cons_zero, List.set_cons_succ])
          refine wpAnyE_ready (rs := [11]) (by kernel_rfl) (by simp) ?_
          refine AllReadyE.consL rfl (fun K hK => ?_) AllReadyE.nil
          rw [if_pos (by rfl)]
          go_simp
          go_at_call 20
          refine (HPT.out _ HF.out).mono ?_
          rintro e' w15 ⟨A15, n15, c15, rfl, hown15, hm15, _⟩
          have hmE : Mod [] _ w15 := hm15.mono (by simp [blks, Value.ownBlock])
          have HFnew := Lib.hid (HF.out.trans hmE); clear HF; have HF := HFnew; clear HFnew
          obtain ⟨ge, hbe, _⟩ := hown15.bs
          have hce := conv_all hbe [] (by simp)
          go_wp2_with fail
          refine hK.out _ _ (by first | exact hmE | exact Mod.refl _ _ | exact (Mod.refl _ _).alloc _) ?_
          clear hK
          (try simp only [Act.put, List.setIfInBounds_toArray, List.set_cons_zero, List.set_cons_succ])
          refine wpAnyE_takeL (preMod _) 12 (v := ?_) rfl (by kernel_rfl) (by kernel_rfl) (by kernel_rfl) (fun _ _ _ h => h) (Or.inl ⟨by rfl, ?_⟩) ?_
          rotate_left; (intro W hW; (try dsimp only at hW); (have hcw := hce W hW; go_simp); try with_reducible rfl)
          (try simp only [Act.put, List.setIfInBounds_toArray, List.set_cons_zero, List.set_cons_succ])
          refine wpAnyE_takeL (preMod _) 13 (v := ?_) rfl (by kernel_rfl) (by kernel_rfl) (by kernel_rfl) (fun _ _ _ h => h) (Or.inl ⟨by rfl, ?_⟩) ?_
          rotate_left; (intro W hW; (try dsimp only at hW); go_simp; try with_reducible rfl)
          (try simp only [Act.put, List.setIfInBounds_toArray, List.set_cons_zero, List.set_cons_succ])
          refine wpAnyE_takeL (preMod _) 14 (v := ?_) rfl (by kernel_rfl) (by kernel_rfl) (by kernel_rfl) (fun _ _ _ h => h) (Or.inl ⟨by rfl, ?_⟩) ?_
          rotate_left; (intro W hW; (try dsimp only at hW); go_simp; try with_reducible rfl)
          (try simp only [Act.put, List.setIfInBounds_toArray, List.set_cons_zero, List.set_cons_succ])
          refine wpAnyE_takeL (preMod _) 15 (v := ?_) rfl (by kernel_rfl) (by kernel_rfl) (by kernel_rfl) (fun _ _ _ h => h) (Or.inl ⟨by rfl, ?_⟩) ?_
          rotate_left; (intro W hW; (try dsimp only at hW); go_simp; try with_reducible rfl)
          (try simp only [Act.put, List.setIfInBounds_toArray, List.set_cons_zero, List.set_cons_succ])
          refine wpAnyE_done (by kernel_rfl) ?_ _
          have HQ := Lib.hid (HM12.out.trans HF.out)
          go_wp2_with fail
          refine (getKeeps_any xs g _ _ (HS.out.mod HQ.out (by simp)) HZ.out).mono ?_
          rintro e' w20 ⟨rfl, hm20⟩
          go_wp2_with fail
          refine (fixed_any _).mono ?_
          rintro e' w21 ⟨rfl, hm21⟩
          go_wp2_with fail
          go_ret
          exact ⟨rfl, (HQ.out.trans hm20).trans hm21⟩
        · have hx0 : ((checkOps own).1 : Int) ≠ 0 := by omega
          have hx1 : (((checkOps own).1 : Int) == 0) = false := by simpa using h0
          have hw0 : Mod [] w13 w13.drew := (Mod.refl _ w13).drew
          go_wp2_with fail
          refine wp_regionE (Mod []) (by kernel_rfl) ?_
          simp only [List.size_toArray, List.length_cons, List.length_nil, Nat.zero_add, Nat.reduceAdd]
          refine wpAnyE_takeL (preMod _) 0 (v := ?_) rfl (by kernel_rfl) (by kernel_rfl) (by kernel_rfl) (fun _ _ _ h => h) (Or.inl ⟨by rfl, ?_⟩) ?_
          rotate_left; (intro W hW; (try dsimp only at hW); go_simp; try with_reducible rfl)
          (try simp only [Act.put, List.setIfInBounds_toArray, List.set_cons_zero, List.set_cons_succ])
          refine wpAnyE_takeL (preMod _) 1 (v := ?_) rfl (by kernel_rfl) (by kernel_rfl) (by kernel_rfl) (fun _ _ _ h => h) (Or.inl ⟨by rfl, ?_⟩) ?_
          rotate_left; (intro W hW; (try dsimp only at hW); go_simp; try with_reducible rfl)
          (try simp only [Act.put, List.setIfInBounds_toArray, List.set_cons_zero, List.set_cons_succ])
          refine wpAnyE_takeL (preMod _) 2 (v := ?_) rfl (by kernel_rfl) (by kernel_rfl) (by kernel_rfl) (fun _ _ _ h => h) (Or.inl ⟨by rfl, ?_⟩) ?_
          rotate_left; (intro W hW; (try dsimp only at hW); go_simp; try with_reducible rfl)
          (try simp only [Act.put, List.setIfInBounds_toArray, List.set_cons_zero, List.set_cons_succ])
          refine wpAnyE_takeL (preMod _) 3 (v := ?_) rfl (by kernel_rfl) (by kernel_rfl) (by kernel_rfl) (fun _ _ _ h => h) (Or.inl ⟨by rfl, ?_⟩) ?_
          rotate_left; (intro W hW; (try dsimp only at hW); go_simp; try with_reducible rfl)
          (try simp only [Act.put, List.setIfInBounds_toArray, List.set_cons_zero, List.set_cons_succ])
          refine wpAnyE_takeL (preMod _) 4 (v := ?_) rfl (by kernel_rfl) (by kernel_rfl) (by kernel_rfl) (fun _ _ _ h => h) (Or.inl ⟨by rfl, ?_⟩) ?_
          rotate_left; (intro W hW; (try dsimp only at hW); go_simp; try with_reducible rfl)
          (try simp only [Act.put, List.setIfInBounds_toArray, List.set_cons_zero, List.set_cons_succ])
          refine wpAnyE_takeL (preMod _) 5 (v := ?_) rfl (by kernel_rfl) (by kernel_rfl) (by kernel_rfl) (fun _ _ _ h => h) (Or.inl ⟨by rfl, ?_⟩) ?_
          rotate_left; (intro W hW; (try dsimp only at hW); go_simp; try with_reducible rfl)
          (try simp only [Act.put, List.setIfInBounds_toArray, List.set_cons_zero, List.set_cons_succ])
          refine wpAnyE_takeL (preMod _) 6 (v := ?_) rfl (by kernel_rfl) (by kernel_rfl) (by kernel_rfl) (fun _ _ _ h => h) (Or.inl ⟨by rfl, ?_⟩) ?_
          rotate_left; (intro W hW; (try dsimp only at hW); go_simp; try with_reducible rfl)
          (try simp only [Act.put, List.setIfInBounds_toArray, List.set_cons_zero, List.set_cons_succ])
          refine wpAnyE_takeL (preMod _) 7 (v := undef) rfl (by kernel_rfl) (by kernel_rfl) (by kernel_rfl) (fun _ _ _ h => h) (Or.inr ⟨by rfl, rfl⟩) ?_
          (try simp only [Act.put, List.setIfInBounds_toArray, List.set_cons_zero, List.set_cons_succ])
          refine wpAnyE_takeL (preMod _) 8 (v := undef) rfl (by kernel_rfl) (by kernel_rfl) (by kernel_rfl) (fun _ _ _ h => h) (Or.inr ⟨by rfl, rfl⟩) ?_
          (try simp only [Act.put, List.setIfInBounds_toArray, List.set_cons_zero, List.set_cons_succ])
          refine wpAnyE_takeL (preMod _) 9 (v := undef) rfl (by kernel_rfl) (by kernel_rfl) (by kernel_rfl) (fun _ _ _ h => h) (Or.inr ⟨by rfl, rfl⟩) ?_
          (try simp only [Act.put, List.setIfInBounds_toArray, List.set_cons_zero, List.set_cons_succ])
          refine wpAnyE_takeL (preMod _) 10 (v := undef) rfl (by kernel_rfl) (by kernel_rfl) (by kernel_rfl) (fun _ _ _ h => h) (Or.inr ⟨by rfl, rfl⟩) ?_
          (try simp only [Act.put, List.setIfInBounds_toArray, List.set_cons_zero, List.set_cons_succ])
          refine wpAnyE_takeL (preMod _) 11 (v := undef) rfl (by kernel_rfl) (by kernel_rfl) (by kernel_rfl) (fun _ _ _ h => h) (Or.inr ⟨by rfl, rfl⟩) ?_
          (try simp only [Act.put, List.setIfInBounds_toArray, List.set_cons_zero, List.set_cons_succ])
          refine wpAnyE_takeL (preMod _) 12 (v := undef) rfl (by kernel_rfl) (by kernel_rfl) (by kernel_rfl) (fun _ _ _ h => h) (Or.inr ⟨by rfl, rfl⟩) ?_
          (try simp only [Act.put, List.setIfInBounds_toArray, List.set_cons_zero, List.set_cons_succ])
          refine wpAnyE_takeL (preMod _) 13 (v := undef) rfl (by kernel_rfl) (by kernel_rfl) (by kernel_rfl) (fun _ _ _ h => h) (Or.inr ⟨by rfl, rfl⟩) ?_
          (try simp only [Act.put, List.setIfInBounds_toArray, List.set_cons_zero, List.set_cons_succ])
          refine wpAnyE_takeL (preMod _) 14 (v := ?_) rfl (by kernel_rfl) (by kernel_rfl) (by kernel_rfl) (fun _ _ _ h => h) (Or.inl ⟨by rfl, ?_⟩) ?_
          rotate_left; (intro W hW; (try dsimp only at hW); go_simp; try with_reducible rfl)
          (try simp only [Act.put, List.setIfInBounds_toArray, List.set_cons_zero, List.set_cons_succ])
          refine wpAnyE_takeL (preMod _) 15 (v := ?_) rfl (by kernel_rfl) (by kernel_rfl) (by kernel_rfl) (fun _ _ _ h => h) (Or.inl ⟨by rfl, ?_⟩) ?_
          rotate_left; (intro W hW; (try dsimp only at hW); go_simp; try with_reducible rfl)
          (try simp only [Act.put, List.setIfInBounds_toArray, List.set_cons_zero, List.set_cons_succ])
          refine wpAnyE_done (by kernel_rfl) ?_ _
          have HQ := Lib.hid (HM12.out.trans hw0)
          go_wp2_with fail
          refine (getKeeps_any xs g _ _ (HS.out.mod HQ.out (by simp)) HZ.out).mono ?_
          rintro e' w20 ⟨rfl, hm20⟩
          go_wp2_with fail
          refine (fixed_any _).mono ?_
          rintro e' w21 ⟨rfl, hm21⟩
          go_wp2_with fail
          go_ret
          exact ⟨rfl, (HQ.out.trans hm20).trans hm21⟩
end Go.Proofs.Ytdiplliemdogfaa
