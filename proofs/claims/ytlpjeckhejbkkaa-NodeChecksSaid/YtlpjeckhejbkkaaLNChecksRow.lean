/-
  NodeChecks: of any transactions: why they may not be, how many bytes their blocks have, and these bytes, are as the document says: the law returns true, whatever the transactions; no condition.
-/
import Derived.Test.YtlpjeckhejbkkaaG5
import Derived.Test.YtlpjeckhejbkkaaRows
section
set_option linter.unusedVariables false
set_option linter.unusedSimpArgs false
set_option maxRecDepth 20000
set_option maxHeartbeats 1600000
namespace Go.Proofs.Ytlpjeckhejbkkaa
open Go.RowKit

/-! ### the reference: which hash stands ahead -/
theorem cmpB_drop {a b : Bytes} {i : Nat} (ha : i < a.length) (hb : i < b.length) : cmpB (a.drop i) (b.drop i) = if a[i].toNat < b[i].toNat then -1 else if b[i].toNat < a[i].toNat then 1 else cmpB (a.drop (i + 1)) (b.drop (i + 1)) := by
  rw [List.drop_eq_getElem_cons ha, List.drop_eq_getElem_cons hb, cmpB]
  simp only [UInt8.lt_iff_toNat_lt]
theorem GHash.cell_at {w : World} {q : Nat} {t : TypeId} {h : GHash} (hb : Blk w q t h.cells.toArray) {i : Nat} (hi : i < h.l.length) : w.cell? ⟨q, i, none⟩ = some (.int .u8 (h.l[i].toNat : Int)) := by
  rw [hb.cell i]
  simp [GHash.cells, List.getElem?_eq_getElem hi]
theorem refCompare_any (a b : GHash) (w : World) : Calls Try.prog 33 #[a.val, b.val] w fun e w' => e = .returned (.int .i64 (cmpB a.l b.l)) ∧ Mod [] w w' := by
  have hal := a.h
  have hbl := b.h
  go_enter Try.func33, Try.ntmps33
  go_wp2_with (first | ((with_reducible refine wpList_box _ rfl ?hgd (cs := a.cells) ?hx ?_); (case hgd => exact rfl); (case hx => exact rfl); intro q1 w1 hv1 hm1 hq1 hl1; have HV1 := Lib.hid hv1; have HM1 := Lib.hid hm1; clear hv1 hm1) | ((with_reducible refine wpList_box _ rfl ?hgd (cs := b.cells) ?hx ?_); (case hgd => exact rfl); (case hx => exact rfl); intro q2 w2 hv2 hm2 hq2 hl2; have HA : Hid (Blk w2 q1 46 a.cells.toArray) := Lib.hid (HV1.out.mod hm2 (by simp)); have HB := Lib.hid hv2; have HM2 := Lib.hid (HM1.out.trans hm2); clear hv2 hm2))
  go_loopw [5] (fun s5 wr => ∃ i : Nat, s5 = .int .i64 (i : Int) ∧ i ≤ 32 ∧ Hid (cmpB a.l b.l = cmpB (a.l.drop i) (b.l.drop i)) ∧ Hid (Mod [] w2 wr)) (fun s _ => 32 - (intOf s).toNat)
  case atStart => exact ⟨0, rfl, by omega, Lib.hid (by simp), Lib.hid (Mod.refl _ _)⟩
  case round =>
    obtain ⟨i, rfl, hi, HC, HM⟩ := hrel
    by_cases hil : i < 32
    · have c1 := GHash.cell_at (HA.out.mod HM.out (by simp)) (i := i) (by omega)
      have c2 := GHash.cell_at (HB.out.mod HM.out (by simp)) (i := i) (by omega)
      have hd := cmpB_drop (a := a.l) (b := b.l) (i := i) (by omega) (by omega)
      obtain ⟨x, hx⟩ : ∃ x, (a.l[i]'(by omega)).toNat = x := ⟨_, rfl⟩
      obtain ⟨y, hy⟩ : ∃ y, (b.l[i]'(by omega)).toNat = y := ⟨_, rfl⟩
      rw [hx] at c1 hd
      rw [hy] at c2 hd
      have HD := Lib.hid (HC.out.trans hd)
      have hii : (i : Int) < 32 := by omega
      clear hx hy hd HC hal hbl
      by_cases h1 : x < y
      · have h1i : (x : Int) < (y : Int) := by omega
        have HE : Hid (cmpB a.l b.l = -1) := Lib.hid (by rw [HD.out, if_pos h1])
        clear HD
        go_wp2_with fail
        go_quiet (fail)
        go_wp2_with fail
        go_ret
        exact ⟨ret_int HE.out.symm, (HM2.out.trans HM.out).drewN _⟩
      · have h1i : ¬ ((x : Int) < (y : Int)) := by omega
        by_cases h2 : y < x
        · have h2i : (y : Int) < (x : Int) := by omega
          have HE : Hid (cmpB a.l b.l = 1) := Lib.hid (by rw [HD.out, if_neg h1, if_pos h2])
          clear HD
          go_wp2_with fail
          go_quiet (fail)
          go_wp2_with fail
          go_quiet (fail)
          go_wp2_with fail
          go_ret
          exact ⟨ret_int HE.out.symm, ((HM2.out.trans HM.out).drewN _).drewN _⟩
        · have h2i : ¬ ((y : Int) < (x : Int)) := by omega
          have HE : Hid (cmpB a.l b.l = cmpB (a.l.drop (i + 1)) (b.l.drop (i + 1))) := Lib.hid (by rw [HD.out, if_neg h1, if_neg h2])
          clear HD
          go_wp2_with fail
          go_quiet (fail)
          go_wp2_with fail
          go_quiet (fail)
          go_wp2_with fail
          go_roundw
          case rel => exact ⟨i + 1, by go_num, by omega, HE, Lib.hid (HM.out.drewN _)⟩
          case measure => simp [intOf]; omega
    · have hie : i = 32 := by omega
      have HE : Hid (cmpB a.l b.l = 0) := Lib.hid (by rw [HC.out, hie, List.drop_eq_nil_of_le (by omega)]; rfl)
      have hii : ¬ ((i : Int) < 32) := by omega
      go_wp2_with fail
      go_ret
      exact ⟨ret_int HE.out.symm, HM2.out.trans HM.out⟩
end Go.Proofs.Ytlpjeckhejbkkaa
end

section
set_option linter.unusedVariables false
set_option linter.unusedSimpArgs false
set_option maxRecDepth 20000
set_option maxHeartbeats 1600000
namespace Go.Proofs.Ytlpjeckhejbkkaa
open Go.RowKit

theorem refNodeCheck_any (n : GNode) (gp go : Nat) (pv ov : Value) (w : World) (h : NodR w n gp go pv ov) :
    Calls Try.prog 16 #[nodeV n.author n.clock pv ov] w fun e w' => e = .returned (.int .i64 (checkNode n)) ∧ Mod [] w w' := by
  obtain ⟨hp, hos⟩ := h
  obtain ⟨A, cap, rfl, hc1, hc2⟩ := hp.val
  unfold maxLen at hc2
  have HP := Lib.hid hp; clear hp
  have HO := Lib.hid hos; clear hos
  obtain ⟨au, cl, ps, os⟩ := n
  dsimp only at *
  have h50 := @cn50 ⟨au, cl, ps, os⟩
  have h51 := @cn51 ⟨au, cl, ps, os⟩
  have h52 := @cn52 ⟨au, cl, ps, os⟩
  have hops := @cnops ⟨au, cl, ps, os⟩
  dsimp only at h50 h51 h52 hops
  generalize checkNode ⟨au, cl, ps, os⟩ = c at *
  unfold clockBad at h51 h52 hops
  have H50 := Lib.hid h50
  have H51 := Lib.hid h51
  have H52 := Lib.hid h52
  have HOPS := Lib.hid hops
  clear h50 h51 h52 hops
  go_enter Try.func16, Try.ntmps16
  go_wp2_with (first | ((with_reducible refine wpList_box_node _ rfl ?hgd (au := au) (cl := cl) (pv := .slice A ps.length cap) (ov := ov) ?hx ?_); (case hgd => exact rfl); (case hx => exact rfl); intro q1 w1 hv1 hm1 hq1 hl1; have HV1 := Lib.hid hv1; obtain ⟨c0, c1, c2, c3, HC⟩ := hv1.open_; have HM1 := Lib.hid hm1; clear hv1 hm1))
  all_goals try (go_ret; refine ⟨ret_int ?_, HM1.out⟩; first | exact H50.out (by omega) | exact H51.out (by omega) (by assumption) | exact H51.out (by omega) (.inl (by omega)) | exact H52.out (by omega) (by assumption) (.inl (by assumption)))
  have HAU : Hid (1 ≤ au ∧ au ≤ 8) := Lib.hid (by omega)
  have HCL : Hid ((1 ≤ cl ∧ cl ≤ 4096) ∧ (!((cl == 1) == ((ps.length : Int) == 0))) = false) := Lib.hid (by assumption)
  have h64 : (ps.length : Int) ≤ 64 := by omega
  clear c0 c1 c2 c3 HC H50 H51
  go_loopw [3] (fun s3 wr => ∃ m : Nat, s3 = .int .i64 ((m : Int) + 1) ∧ (m + 1 ≤ ps.length ∨ m = 0) ∧ Hid (∀ i (h : i + 1 < ps.length), i < m → cmpB (ps[i]'(by omega)).l ps[i + 1].l < 0) ∧ Hid (Mod [] w1 wr)) (fun s _ => ps.length - (intOf s).toNat)
  case atStart => exact ⟨0, rfl, .inr rfl, Lib.hid (fun i _ h => by omega), Lib.hid (Mod.refl _ _)⟩
  case round =>
    obtain ⟨m, rfl, hm, HR, HM⟩ := hrel
    obtain ⟨c0, c1, c2, c3, _⟩ := (HV1.out.mod HM.out (by simp)).open_
    have HWM := Lib.hid (HM1.out.trans HM.out)
    by_cases hml : m + 1 < ps.length
    · have HOA : Hid (HS wr gp _ ps) := Lib.hid (HP.out.mod HWM.out (by simp))
      obtain ⟨o1, ca, hv1, _, _, _, hA⟩ := HS.item HOA.out (by omega)
      injection hv1 with hx1 hx2 hx3
      subst hx1 hx3
      have HA := Lib.hid (hA m (by omega))
      have HB := Lib.hid (hA (m + 1) hml)
      clear hA hx2 hm
      have hlt : (m : Int) + 1 < ps.length := by omega
      go_wp2_with fail
      have hw0 : Mod [] wr wr.drew := (Mod.refl _ wr).drew
      have HLA : Hid (∀ W, Mod [] wr W → CellsAt W gp (o1 + m * 32) (ps[m]'(by omega)).cells) := Lib.hid (fun W hW => CellsAt.mod HA.out hW (by simp))
      have HLB : Hid (∀ W, Mod [] wr W → CellsAt W gp (o1 + (m + 1) * 32) ps[m + 1].cells) := Lib.hid (fun W hW => CellsAt.mod HB.out hW (by simp))
      have HCQ : Hid (∀ W, Mod [] wr W → W.cell? ⟨q1, 2, none⟩ = some (.slice (some ⟨gp, o1, none⟩) ps.length cap)) := Lib.hid (fun W hW => (HV1.out.mod (HM.out.trans hW) (by simp)).open_.2.2.1)
      have hq : IntKind.i64.wrap ((m : Int) + 1 - 1) = (m : Int) := by rw [IntWalk.i64_in _ (by omega)]; omega
      have hq2 : IntKind.i64.wrap (m : Int) = (m : Int) := IntWalk.i64_in _ (by omega)
      have hml2 : (m : Int) < (ps.length : Int) := by omega
      have hn : ((m : Int) + 1).toNat = m + 1 := by omega
      have hn0 : (0 : Int) ≤ (m : Int) + 1 := by omega
      have HS2 : Hid (∀ W, Calls Try.prog 33 #[.agg (ps[m]'(by omega)).cells.toArray, .agg ps[m + 1].cells.toArray] W fun e w' => e = .returned (.int .i64 (cmpB (ps[m]'(by omega)).l ps[m + 1].l)) ∧ Mod [] W w') := Lib.hid (fun W => refCompare_any _ _ W)
      obtain ⟨cc, hcc⟩ : ∃ cc, cmpB (ps[m]'(by omega)).l ps[m + 1].l = cc := ⟨_, rfl⟩
      rw [hcc] at HS2
      have HCC := Lib.hid hcc
      clear hcc c0 c1 c2 c3
      refine wp_regionE (Mod []) (by kernel_rfl) ?_
      simp only [List.size_toArray, List.length_cons, List.length_nil, Nat.zero_add, Nat.reduceAdd]
      refine wpAnyE_takeL (preMod _) 0 (v := ?_) rfl (by kernel_rfl) (by kernel_rfl) (by kernel_rfl) (fun _ _ _ h => h) (Or.inl ⟨by rfl, ?_⟩) ?_
      rotate_left; (intro W hW; (try dsimp only at hW); go_simp; try with_reducible rfl)
      (try simp only [Act.put, List.setIfInBounds_toArray, List.set_cons_zero, List.set_cons_succ])
      refine wpAnyE_takeL (preMod _) 1 (v := ?_) rfl (by kernel_rfl) (by kernel_rfl) (by kernel_rfl) (fun _ _ _ h => h) (Or.inl ⟨by rfl, ?_⟩) ?_
      rotate_left; (intro W hW; (try dsimp only at hW); (have hcw := HCQ.out W (hw0.trans hW); go_simp); try with_reducible rfl)
      (try simp only [Act.put, List.setIfInBounds_toArray, List.set_cons_zero, List.set_cons_succ])
      refine wpAnyE_takeL (preMod _) 2 (v := ?_) rfl (by kernel_rfl) (by kernel_rfl) (by kernel_rfl) (fun _ _ _ h => h) (Or.inl ⟨by rfl, ?_⟩) ?_
      rotate_left; (intro W hW; (try dsimp only at hW); go_simp; try with_reducible rfl)
      (try simp only [Act.put, List.setIfInBounds_toArray, List.set_cons_zero, List.set_cons_succ])
      refine wpAnyE_takeL (preMod _) 3 (v := ?_) rfl (by kernel_rfl) (by kernel_rfl) (by kernel_rfl) (fun _ _ _ h => h) (Or.inl ⟨by rfl, ?_⟩) ?_
      rotate_left; (intro W hW; (try dsimp only at hW); go_simp; try with_reducible rfl)
      (try simp only [Act.put, List.setIfInBounds_toArray, List.set_cons_zero, List.set_cons_succ])
      refine wpAnyE_takeL (preMod _) 4 (v := ?_) rfl (by kernel_rfl) (by kernel_rfl) (by kernel_rfl) (fun _ _ _ h => h) (Or.inl ⟨by rfl, ?_⟩) ?_
      rotate_left; (intro W hW; (try dsimp only at hW); go_simp; try with_reducible rfl)
      (try simp only [Act.put, List.setIfInBounds_toArray, List.set_cons_zero, List.set_cons_succ])
      refine wpAnyE_takeL (preMod _) 5 (v := ?_) rfl (by kernel_rfl) (by kernel_rfl) (by kernel_rfl) (fun _ _ _ h => h) (Or.inl ⟨by rfl, ?_⟩) ?_
      rotate_left; (intro W hW; (try dsimp only at hW); refine (run_load_cells rtHash (.tmp 47) (by rfl) (by rfl) (GHash.cells_length _) (HLA.out W (hw0.trans hW))).trans ?_; try with_reducible rfl)
      (try simp only [Act.put, List.setIfInBounds_toArray, List.set_cons_zero, List.set_cons_succ])
      refine wpAnyE_takeL (preMod _) 6 (v := ?_) rfl (by kernel_rfl) (by kernel_rfl) (by kernel_rfl) (fun _ _ _ h => h) (Or.inl ⟨by rfl, ?_⟩) ?_
      rotate_left; (intro W hW; (try dsimp only at hW); go_simp; try with_reducible rfl)
      (try simp only [Act.put, List.setIfInBounds_toArray, List.set_cons_zero, List.set_cons_succ])
      refine wpAnyE_takeL (preMod _) 7 (v := ?_) rfl (by kernel_rfl) (by kernel_rfl) (by kernel_rfl) (fun _ _ _ h => h) (Or.inl ⟨by rfl, ?_⟩) ?_
      rotate_left; (intro W hW; (try dsimp only at hW); (have hcw := HCQ.out W (hw0.trans hW); go_simp); try with_reducible rfl)
      (try simp only [Act.put, List.setIfInBounds_toArray, List.set_cons_zero, List.set_cons_succ])
      refine wpAnyE_takeL (preMod _) 8 (v := ?_) rfl (by kernel_rfl) (by kernel_rfl) (by kernel_rfl) (fun _ _ _ h => h) (Or.inl ⟨by rfl, ?_⟩) ?_
      rotate_left; (intro W hW; (try dsimp only at hW); go_simp; try with_reducible rfl)
      (try simp only [Act.put, List.setIfInBounds_toArray, List.set_cons_zero, List.set_cons_succ])
      refine wpAnyE_takeL (preMod _) 9 (v := ?_) rfl (by kernel_rfl) (by kernel_rfl) (by kernel_rfl) (fun _ _ _ h => h) (Or.inl ⟨by rfl, ?_⟩) ?_
      rotate_left; (intro W hW; (try dsimp only at hW); (go_simp; try rw [if_pos (by omega)]); try with_reducible rfl)
      (try simp only [Act.put, List.setIfInBounds_toArray, List.set_cons_zero, List.set_cons_succ])
      refine wpAnyE_takeL (preMod _) 10 (v := ?_) rfl (by kernel_rfl) (by kernel_rfl) (by kernel_rfl) (fun _ _ _ h => h) (Or.inl ⟨by rfl, ?_⟩) ?_
      rotate_left; (intro W hW; (try dsimp only at hW); refine (run_load_cells rtHash (.tmp 52) (by rfl) (by rfl) (GHash.cells_length _) (HLB.out W (hw0.trans hW))).trans ?_; try with_reducible rfl)
      (try simp only [Act.put, List.setIfInBounds_toArray, List.set_cons_zero, List.set_cons_succ])
      refine wpAnyE_ready (rs := [11]) (by kernel_rfl) (by simp) ?_
      refine AllReadyE.consL rfl (fun K hK => ?_) AllReadyE.nil
      rw [if_pos (by rfl)]
      go_simp
      go_at_call 33
      refine (HS2.out _).mono ?_
      rintro e' w9 ⟨rfl, hm9⟩
      have hmE := hm9
      have HM9 : Hid (Mod [] wr w9) := Lib.hid (hw0.trans hm9)
      go_wp2_with fail
      refine hK.out _ _ (by first | exact hmE | exact Mod.refl _ _ | exact (Mod.refl _ _).alloc _) ?_
      clear hK
      (try simp only [Act.put, List.setIfInBounds_toArray, List.set_cons_zero, List.set_cons_succ])
      refine wpAnyE_takeL (preMod _) 12 (v := ?_) rfl (by kernel_rfl) (by kernel_rfl) (by kernel_rfl) (fun _ _ _ h => h) (Or.inl ⟨by rfl, ?_⟩) ?_
      rotate_left; (intro W hW; (try dsimp only at hW); go_simp; try with_reducible rfl)
      (try simp only [Act.put, List.setIfInBounds_toArray, List.set_cons_zero, List.set_cons_succ])
      refine wpAnyE_done (by kernel_rfl) ?_ _
      have HMW : Hid (Mod [] w1 w9) := Lib.hid (HM.out.trans HM9.out)
      by_cases hneg : cc < 0
      · have hge : ¬ (0 ≤ cc) := by omega
        have HNG := Lib.hid hneg
        go_wp2_with fail
        go_roundw
        case rel =>
          refine ⟨m + 1, by omega, .inl (by omega), Lib.hid ?_⟩
          intro i hi him
          by_cases e : i = m
          · subst e; rw [HCC.out]; exact HNG.out
          · exact HR.out i hi (by omega)
        case measure => simp [intOf]; omega
      · have hge : 0 ≤ cc := by omega
        have HNG := Lib.hid hneg
        go_wp2_with fail
        go_ret
        exact ⟨ret_int (H52.out HAU.out HCL.out (.inr (by rw [rising_false hml (by rw [HCC.out]; have := HNG.out; omega)]; rfl))), HM1.out.trans HMW.out⟩
    · have hlt : ¬ ((m : Int) + 1 < ps.length) := by omega
      have hrt : risingFrom [] ps = true := rising_true (fun i hi => HR.out i hi (by omega))
      have HRT := Lib.hid hrt
      clear hrt
      go_wp2_with fail
      refine (refCheck_any os go ov wr (HO.out.mod HWM.out (by simp))).mono ?_
      rintro e' w3 ⟨rfl, hm3⟩
      go_wp2_with fail
      go_ret
      exact ⟨ret_int (HOPS.out HAU.out HCL.out ⟨h64, by rw [HRT.out]; rfl⟩), HWM.out.trans hm3⟩
/-! ### the reference: a transaction's bytes -/
theorem own_new2 (w : World) (x y : UInt8) : OwnB (w.alloc (.cells #[bv x, bv y] 5)) (.slice (some ⟨w.heap.size, 0, none⟩) 2 2) [x, y] :=
  ⟨rfl, .inr ⟨w.heap.size, 2, #[bv x, bv y], rfl, Nat.zero_le _, heap_alloc_new w _, Nat.le_refl _, by decide, rfl, rfl⟩⟩
/-- a row of the call's own that grows -/
def GrowS (w : World) (v : Value) (Z : Bytes) (q : Nat) (au cl : Int) (pv ov : Value) (wr : World) : Prop := OwnB wr v Z ∧ (∀ b ∈ blks v, w.heap.size ≤ b) ∧ NodB wr q au cl pv ov ∧ Mod [] w wr
theorem GrowS.step {w wr w' : World} {v : Value} {Z Z' : Bytes} {q : Nat} {au cl : Int} {pv ov : Value} {e : Ending} (h : GrowS w v Z q au cl pv ov wr) (hp : AppP wr v Z' e w') : ∃ A n cap, e = .returned (.slice A n cap) ∧ GrowS w (.slice A n cap) Z' q au cl pv ov w' := by
  obtain ⟨A, n, cap, he, hO, hm, hf⟩ := hp
  refine ⟨A, n, cap, he, hO, fun b hb => (hf b hb).elim (h.2.1 b) (fun h1 => Nat.le_trans h.2.2.2.size h1), h.2.2.1.mod hm (own_ne h.1 h.2.2.1 (by decide)), h.2.2.2.then hm (fun b hb => .inr (h.2.1 b hb))⟩
theorem refBlock_any (n : GNode) (gp go : Nat) (pv ov : Value) (w : World) (h : NodR w n gp go pv ov) (h0 : checkNode n = 0) (hn : ∀ o ∈ n.ops, o.nums) :
    Calls Try.prog 30 #[nodeV n.author n.clock pv ov] w (NewB w (nodeBlock n)) := by
  obtain ⟨hp, hos⟩ := h
  obtain ⟨A, cap, rfl, hc1, hc2⟩ := hp.val
  obtain ⟨ha, hcl, hpl, _, hck⟩ := checkNode_zero h0
  have hol := putOps_length n.ops hck hn
  unfold maxLen at hc2
  have HP := Lib.hid hp; clear hp
  have HO := Lib.hid hos; clear hos
  have HCK := Lib.hid hck; clear hck
  have HN := Lib.hid hn; clear hn
  obtain ⟨au, cl, ps, os⟩ := n
  dsimp only at *
  clear h0
  obtain ⟨a, rfl⟩ : ∃ a : Nat, au = a := ⟨au.toNat, by omega⟩
  obtain ⟨c, rfl⟩ : ∃ c : Nat, cl = c := ⟨cl.toNat, by omega⟩
  have HBLK : Hid (nodeBlock ⟨a, c, ps, os⟩ = [1, UInt8.ofNat a] ++ putNum c ++ putNum ps.length ++ ps.flatMap GHash.l ++ putOps os) := Lib.hid (by simp [nodeBlock])
  have HL1 : Hid ((putNum c).length ≤ 10 ∧ (putNum ps.length).length ≤ 10) := Lib.hid ⟨putNum_length10 _ (by omega), putNum_length10 _ (by omega)⟩
  generalize nodeBlock ⟨a, c, ps, os⟩ = B at *
  have hwa : IntKind.u8.wrap (a : Int) = (a : Int) := by rw [IntKind.wrap_u8]; omega
  have HGP : Hid (0 < ps.length → gp < w.heap.size) := Lib.hid (fun h0 => by obtain ⟨_, _, _, _, _, hl', _⟩ := HP.out.at_ h0; exact hl')
  have HGO : Hid (0 < os.length → go < w.heap.size) := Lib.hid (fun h0 => by obtain ⟨_, _, _, _, _, hl', _⟩ := HO.out.at_ h0; exact hl')
  go_enter Try.func30, Try.ntmps30
  go_upto_region 1 with (first | ((with_reducible refine wpList_box_node _ rfl ?hgd (au := (a : Int)) (cl := (c : Int)) (pv := .slice A ps.length cap) (ov := ov) ?hx ?_); (case hgd => exact rfl); (case hx => exact rfl); intro q1 w1 hv1 hm1 hq1 hl1; have HV1 := Lib.hid hv1; have HM1 := Lib.hid hm1; clear hv1 hm1))
  obtain ⟨c0, c1, c2, c3, _⟩ := HV1.out.open_
  go_upto_region 2 with fail
  have hau : bv (UInt8.ofNat a) = .int .u8 (a : Int) := by unfold bv; simp; omega
  have hown := own_new2 w1 1 (UInt8.ofNat a)
  rw [hau] at hown
  have hnod : NodB (w1.alloc (.cells #[bv 1, .int .u8 (a : Int)] 5)) q1 a c (.slice A ps.length cap) ov := HV1.out.mod ((Mod.refl [] w1).alloc _) (by simp)
  have HG1 : Hid (GrowS w (.slice (some ⟨w1.heap.size, 0, none⟩) 2 2) [1, UInt8.ofNat a] q1 a c (.slice A ps.length cap) ov (w1.alloc (.cells #[.int .u8 1, .int .u8 (a : Int)] 5))) := Lib.hid ⟨hown, by have := HM1.out.size; simp [blks, Value.ownBlock]; omega, hnod, HM1.out.trans ((Mod.refl [] w1).alloc _)⟩
  clear hown hnod hau
  obtain ⟨w2, hw2⟩ : ∃ w2, w1.alloc (.cells #[.int .u8 1, .int .u8 (a : Int)] 5) = w2 := ⟨_, rfl⟩
  obtain ⟨g0, hg0⟩ : ∃ g0, w1.heap.size = g0 := ⟨_, rfl⟩
  rw [hw2, hg0] at HG1
  rw [hw2, hg0]
  clear hw2 hg0 HV1 HM1 c0 c1 c2 c3 hwa
  obtain ⟨c0, c1, c2, c3, _⟩ := HG1.out.2.2.1.open_
  go_wp2_with fail
  refine (refNumber_any _ _ c w2 HG1.out.1 (by omega) (by simp)).mono ?_
  intro e' w3 hp3
  obtain ⟨A3, n3, cap3, rfl, hg3⟩ := HG1.out.step hp3
  have HG3 := Lib.hid hg3
  clear hp3 hg3 HG1 c0 c1 c2 c3
  obtain ⟨c0, c1, c2, c3, _⟩ := HG3.out.2.2.1.open_
  go_wp2_with fail
  refine (refNumber_any _ _ ps.length w3 HG3.out.1 (by omega) (by have := HL1.out.1; simp; omega)).mono ?_
  intro e' w4 hp4
  obtain ⟨A4, n4, cap4, rfl, hg4⟩ := HG3.out.step hp4
  obtain ⟨Z, hZ⟩ : ∃ Z, [1, UInt8.ofNat a] ++ putNum c ++ putNum ps.length = Z := ⟨_, rfl⟩
  have HZL : Hid (Z.length ≤ 22) := Lib.hid (by rw [← hZ]; have := HL1.out; simp; omega)
  rw [hZ] at hg4 HBLK
  have HG4 := Lib.hid hg4
  clear hp4 hg4 HG3 c0 c1 c2 c3 hZ HL1
  go_wp2_with fail
  go_loopw [3, 4] (fun s3 s4 wr => ∃ (i : Nat) (A5 : Option Addr) (n5 cap5 : Nat), s3 = .slice A5 n5 cap5 ∧ s4 = .int .i64 (i : Int) ∧ i ≤ ps.length ∧ Hid (GrowS w (.slice A5 n5 cap5) (Z ++ (ps.take i).flatMap GHash.l) q1 a c (.slice A ps.length cap) ov wr)) (fun _ s _ => ps.length - (intOf s).toNat)
  case atStart => exact ⟨0, A4, n4, cap4, rfl, rfl, by omega, Lib.hid (by simpa using HG4.out)⟩
  case round =>
    obtain ⟨i, A5, n5, cap5, rfl, rfl, hi, HG⟩ := hrel
    clear HG4
    obtain ⟨c0, c1, c2, c3, _⟩ := HG.out.2.2.1.open_
    by_cases hil : i < ps.length
    · obtain ⟨off, cap', hv', _, _, _, hit⟩ := HS.item (HP.out.mod HG.out.2.2.2 (by simp)) (by omega)
      injection hv' with hA _ hcap
      subst hA
      subst hcap
      have HJ := Lib.hid (hit i hil)
      clear hit
      obtain ⟨h, hh⟩ : ∃ h, ps[i] = h := ⟨_, rfl⟩
      have HTK : Hid (ps.take (i + 1) = ps.take i ++ [h]) := Lib.hid (by rw [List.take_succ_eq_append_getElem hil, hh])
      rw [hh] at HJ
      clear hh
      have hlen : (Z ++ (ps.take i).flatMap GHash.l).length ≤ 2100 := by
        rw [List.length_append, flatH_length, List.length_take]
        have := HZL.out
        omega
      have HLEN := Lib.hid hlen
      clear hlen
      have hii : (i : Int) < (ps.length : Int) := by omega
      go_wp2_with (first | ((with_reducible refine wpList_load_hash _ rfl ?hgd HJ.out ?hx ?_); (case hgd => exact rfl); (case hx => exact rfl)))
      refine (refHash_any _ _ h wr HG.out.1 (by have := HLEN.out; omega)).mono ?_
      intro e' w8 hp8
      obtain ⟨A8, n8, cap8, rfl, hg8⟩ := HG.out.step hp8
      have HG8 : Hid (GrowS w (.slice A8 n8 cap8) (Z ++ (ps.take (i + 1)).flatMap GHash.l) q1 a c (.slice (some ⟨gp, off, none⟩) ps.length cap) ov w8) := Lib.hid (by rw [HTK.out]; simpa using hg8)
      clear hp8 hg8 HG c0 c1 c2 c3
      go_wp2_with fail
      go_roundw
      case rel => exact ⟨i + 1, A8, n8, cap8, rfl, by go_num, by omega, HG8⟩
      case measure => simp [intOf]; omega
    · have hie : i = ps.length := by omega
      subst hie
      rw [List.take_length] at HG
      have hzl : (Z ++ ps.flatMap GHash.l).length ≤ 2100 := by
        rw [List.length_append, flatH_length]
        have := HZL.out
        omega
      have HPUT := Lib.hid (refPut_any _ _ os go _ wr HG.out.1 (HO.out.mod HG.out.2.2.2 (by simp)) (fun h0 hb => by have := HGO.out h0; have := HG.out.2.1 _ hb; omega) HN.out HCK.out (by omega))
      rw [← HBLK.out] at HPUT
      clear hzl
      have hii : ¬ ((ps.length : Int) < (ps.length : Int)) := by omega
      go_wp2_with fail
      refine HPUT.out.mono ?_
      intro e' w9 hp9
      obtain ⟨A9, n9, cap9, rfl, hg9⟩ := HG.out.step hp9
      go_wp2_with fail
      go_ret
      exact ⟨_, rfl, hg9.1, hg9.2.2.2, hg9.2.1⟩
end Go.Proofs.Ytlpjeckhejbkkaa
end

section
set_option linter.unusedVariables false
set_option linter.unusedSimpArgs false
set_option maxRecDepth 20000
set_option maxHeartbeats 1600000
namespace Go.Proofs.Ytlpjeckhejbkkaa
open Go.RowKit

theorem refEncode_any (n : GNode) (gp go : Nat) (pv ov : Value) (w : World) (h : NodR w n gp go pv ov) (hn : ∀ o ∈ n.ops, o.nums) :
    Calls Try.prog 14 #[nodeV n.author n.clock pv ov] w (EncP w (encOf n)) := by
  have HR := Lib.hid h; clear h
  have HCH : Hid (∀ W, Mod [] w W → Calls Try.prog 16 #[nodeV n.author n.clock pv ov] W fun e w' => e = .returned (.int .i64 (checkNode n)) ∧ Mod [] W w') := Lib.hid (fun W hW => refNodeCheck_any n gp go pv ov W (HR.out.mod0 hW))
  have HLY : Hid (∀ W, Mod [] w W → checkNode n = 0 → Calls Try.prog 30 #[nodeV n.author n.clock pv ov] W (NewB W (nodeBlock n))) := Lib.hid (fun W hW h0 => refBlock_any n gp go pv ov W (HR.out.mod0 hW) h0 hn)
  have HBL : Hid (checkNode n = 0 → (nodeBlock n).length ≤ 307300000) := Lib.hid (fun h0 => nodeBlock_length h0 hn)
  clear HR hn
  have HE1 : Hid (checkNode n = 0 → 1048576 < (nodeBlock n).length → encOf n = ([], 4)) := Lib.hid (fun h h' => by unfold encOf; rw [if_pos h, if_pos h'])
  have HE2 : Hid (checkNode n = 0 → ¬ 1048576 < (nodeBlock n).length → encOf n = (nodeBlock n, 0)) := Lib.hid (fun h h' => by unfold encOf; rw [if_pos h, if_neg h'])
  have HE3 : Hid (checkNode n ≠ 0 → encOf n = ([], checkNode n)) := Lib.hid (fun h => by unfold encOf; rw [if_neg h])
  generalize encOf n = r at *
  generalize nodeBlock n = B at *
  generalize checkNode n = c at *
  generalize n.author = au at *
  generalize n.clock = cl at *
  go_enter Try.func14, Try.ntmps14
  go_wp2_with (first | ((with_reducible refine wpList_box_node _ rfl ?hgd (au := au) (cl := cl) (pv := pv) (ov := ov) ?hx ?_); (case hgd => exact rfl); (case hx => exact rfl); intro q1 w1 hv1 hm1 hq1 hl1; have HV1 := Lib.hid hv1; obtain ⟨_, _, _, _, HC⟩ := hv1.open_; have HM1 := Lib.hid hm1; clear hv1 hm1) | ((with_reducible refine wpList_load_node _ rfl ?hgd HC.out ?hx ?_); (case hgd => exact rfl); (case hx => exact rfl)))
  refine (HCH.out w1 HM1.out).mono ?_
  rintro e' w2 ⟨rfl, hm2⟩
  have HM2 := Lib.hid (HM1.out.trans hm2)
  obtain ⟨_, _, _, _, HC2⟩ := (HV1.out.mod hm2 (by simp)).open_
  clear hm2 HM1 HV1 HCH
  by_cases h0 : c = 0
  · subst h0
    have hcc : (((0 : Nat) : Int) == 0) = true := rfl
    have HBL2 := Lib.hid (HBL.out rfl)
    have HLY2 := Lib.hid (HLY.out w2 HM2.out rfl)
    have HF1 := Lib.hid (HE1.out rfl)
    have HF2 := Lib.hid (HE2.out rfl)
    clear HBL HLY HE1 HE2 HE3
    go_wp2_with (first | ((with_reducible refine wpList_load_node _ rfl ?hgd HC2.out ?hx ?_); (case hgd => exact rfl); (case hx => exact rfl)))
    refine HLY2.out.mono ?_
    rintro e' w3 ⟨v3, rfl, hown, hm3, hf3⟩
    obtain ⟨A3, cap3, rfl, hx1, hx2⟩ := hown.val
    unfold maxLen at hx2
    have HOWN := Lib.hid hown
    have HM3 := Lib.hid (HM2.out.trans hm3)
    have HF3 := Lib.hid (fun b hb => Nat.le_trans HM2.out.size (hf3 b hb))
    clear hown hm3 hf3 HLY2
    by_cases hbig : 1048576 < B.length
    · have HB := Lib.hid hbig
      have hbi : (1048576 : Int) < B.length := by omega
      go_wp2_with fail
      go_ret2
      rw [HF1.out HB.out]
      exact ⟨_, rfl, OwnB.nil _, HM3.out, blks_nil⟩
    · have HB := Lib.hid hbig
      have hbi : ¬ ((1048576 : Int) < B.length) := by omega
      go_wp2_with fail
      go_ret2
      rw [HF2.out HB.out]
      exact ⟨_, rfl, HOWN.out, HM3.out, HF3.out⟩
  · have hcc : (((c : Nat) : Int) == 0) = false := by simp; omega
    have hcn : ¬ ((c : Int) = 0) := by omega
    have H0 := Lib.hid h0
    clear HBL HLY
    go_wp2_with (first | ((with_reducible refine wpList_load_node _ rfl ?hgd HC2.out ?hx ?_); (case hgd => exact rfl); (case hx => exact rfl)))
    go_ret2
    rw [HE3.out H0.out]
    exact ⟨_, rfl, OwnB.nil _, HM2.out, blks_nil⟩
theorem refNodeSize_any (n : GNode) (gp go : Nat) (pv ov : Value) (w : World) (h : NodR w n gp go pv ov) (hn : ∀ o ∈ n.ops, o.nums) :
    Calls Try.prog 18 #[nodeV n.author n.clock pv ov] w fun e w' => e = .returned (.int .i64 (sizeOf_ n)) ∧ Mod [] w w' := by
  have HR := Lib.hid h; clear h
  have HCH : Hid (∀ W, Mod [] w W → Calls Try.prog 16 #[nodeV n.author n.clock pv ov] W fun e w' => e = .returned (.int .i64 (checkNode n)) ∧ Mod [] W w') := Lib.hid (fun W hW => refNodeCheck_any n gp go pv ov W (HR.out.mod0 hW))
  have HLY : Hid (∀ W, Mod [] w W → checkNode n = 0 → Calls Try.prog 30 #[nodeV n.author n.clock pv ov] W (NewB W (nodeBlock n))) := Lib.hid (fun W hW h0 => refBlock_any n gp go pv ov W (HR.out.mod0 hW) h0 hn)
  clear HR hn
  have HE1 : Hid (checkNode n = 0 → sizeOf_ n = (nodeBlock n).length) := Lib.hid (fun h => by unfold sizeOf_; rw [if_pos h])
  have HE3 : Hid (checkNode n ≠ 0 → sizeOf_ n = 0) := Lib.hid (fun h => by unfold sizeOf_; rw [if_neg h])
  generalize sizeOf_ n = r at *
  generalize nodeBlock n = B at *
  generalize checkNode n = c at *
  generalize n.author = au at *
  generalize n.clock = cl at *
  go_enter Try.func18, Try.ntmps18
  go_wp2_with (first | ((with_reducible refine wpList_box_node _ rfl ?hgd (au := au) (cl := cl) (pv := pv) (ov := ov) ?hx ?_); (case hgd => exact rfl); (case hx => exact rfl); intro q1 w1 hv1 hm1 hq1 hl1; have HV1 := Lib.hid hv1; obtain ⟨_, _, _, _, HC⟩ := hv1.open_; have HM1 := Lib.hid hm1; clear hv1 hm1) | ((with_reducible refine wpList_load_node _ rfl ?hgd HC.out ?hx ?_); (case hgd => exact rfl); (case hx => exact rfl)))
  refine (HCH.out w1 HM1.out).mono ?_
  rintro e' w2 ⟨rfl, hm2⟩
  have HM2 := Lib.hid (HM1.out.trans hm2)
  obtain ⟨_, _, _, _, HC2⟩ := (HV1.out.mod hm2 (by simp)).open_
  clear hm2 HM1 HV1 HCH
  by_cases h0 : c = 0
  · subst h0
    have hcc : (((0 : Nat) : Int) == 0) = true := rfl
    have HLY2 := Lib.hid (HLY.out w2 HM2.out rfl)
    have HF1 := Lib.hid (HE1.out rfl)
    clear HLY HE1 HE3
    go_wp2_with (first | ((with_reducible refine wpList_load_node _ rfl ?hgd HC2.out ?hx ?_); (case hgd => exact rfl); (case hx => exact rfl)))
    refine HLY2.out.mono ?_
    rintro e' w3 ⟨v3, rfl, hown, hm3, hf3⟩
    obtain ⟨A3, cap3, rfl, hx1, hx2⟩ := hown.val
    have HM3 := Lib.hid (HM2.out.trans hm3)
    clear hown hm3 hf3 HLY2
    go_wp2_with fail
    go_ret
    rw [HF1.out]
    exact ⟨rfl, HM3.out⟩
  · have hcc : (((c : Nat) : Int) == 0) = false := by simp; omega
    have hcn : ¬ ((c : Int) = 0) := by omega
    have H0 := Lib.hid h0
    clear HLY
    go_wp2_with (first | ((with_reducible refine wpList_load_node _ rfl ?hgd HC2.out ?hx ?_); (case hgd => exact rfl); (case hx => exact rfl)))
    go_ret
    rw [HE3.out H0.out]
    exact ⟨rfl, HM2.out⟩
end Go.Proofs.Ytlpjeckhejbkkaa
end

section
set_option linter.unusedVariables false
set_option linter.unusedSimpArgs false
set_option maxRecDepth 20000
set_option maxHeartbeats 1600000
namespace Go.Proofs.Ytlpjeckhejbkkaa
open Go.RowKit

/-! ### any transactions, as they lie in memory -/
structure NV where
  n : GNode
  pv : Value
  ov : Value
  gp : Nat
  go : Nat
def NV.cells (x : NV) : List Value := nodeL x.n.author x.n.clock x.pv x.ov
theorem NV.cells_length (x : NV) : x.cells.length = 4 := rfl
def NS_ (w : World) (g : Nat) (v : Value) (l : List NV) : Prop := RS w 4 g v l.length (l.flatMap NV.cells) ∧ ∀ x ∈ l, NodR w x.n x.gp x.go x.pv x.ov ∧ ∀ o ∈ x.n.ops, o.nums
theorem NS_.mod0 {w w' : World} {g : Nat} {v : Value} {l : List NV} (h : NS_ w g v l) (hm : Mod [] w w') : NS_ w' g v l := ⟨h.1.mod hm (by simp), fun x hx => ⟨(h.2 x hx).1.mod0 hm, (h.2 x hx).2⟩⟩
theorem NodR.slices {w : World} {n : GNode} {gp go : Nat} {pv ov : Value} (h : NodR w n gp go pv ov) : pv.oneCell' = true ∧ ov.oneCell' = true := by
  obtain ⟨A, c, rfl, _, _⟩ := h.ps.val
  obtain ⟨B, d, rfl, _, _⟩ := h.os.val
  exact ⟨rfl, rfl⟩
theorem nodeChecks_any (l : List NV) (g : Nat) (v : Value) (w : World) (hl : NS_ w g v l) :
    Calls Try.prog 5 #[v] w fun e w' => e = .returned (.bool true) ∧ Mod [] w w' := by
  obtain ⟨A, cap, rfl, hc1, hc2⟩ := hl.1.val
  unfold maxLen at hc2
  have HL := Lib.hid hl; clear hl
  go_enter Try.func5, Try.ntmps5
  go_wp2_with fail
  refine (awake_any _).mono ?_
  rintro e' w1 ⟨rfl, hm1⟩
  have HM1 := Lib.hid hm1
  clear hm1
  go_wp2_with fail
  go_loopw [13] (fun s wr => ∃ i : Nat, s = .int .i64 (i : Int) ∧ i ≤ l.length ∧ Hid (Mod [] w wr)) (fun s _ => l.length - (intOf s).toNat)
  case atStart => exact ⟨0, rfl, by omega, HM1⟩
  case round =>
    obtain ⟨i, rfl, hi, HM⟩ := hrel
    by_cases hil : i < l.length
    · have HLR : Hid (NS_ wr g (.slice A l.length cap) l) := Lib.hid (HL.out.mod0 HM.out)
      obtain ⟨off, ca, hv1, _, _, _, hit⟩ := RS.item NV.cells_length HLR.out.1 (by omega)
      injection hv1 with hx1 hx2 hx3
      subst hx1 hx3
      have hj := hit i hil
      have hnd := HLR.out.2 l[i] (List.getElem_mem hil)
      obtain ⟨x, hx⟩ : ∃ x, l[i] = x := ⟨_, rfl⟩
      rw [hx] at hj hnd
      obtain ⟨n, pv, ov, gp, go⟩ := x
      obtain ⟨hnr, hnums⟩ := hnd
      dsimp only at hnr hnums
      have HJ : Hid (CellsAt wr g (off + i * 4) (nodeL n.author n.clock pv ov)) := Lib.hid hj
      have hone := hnr.slices
      have HP1 := Lib.hid hone.1
      have HP2 := Lib.hid hone.2
      have HCK : Hid (∀ W, Mod [] wr W → Calls Try.prog 15 #[nodeV n.author n.clock pv ov] W fun e w' => e = .returned (.int .i64 (checkNode n)) ∧ Mod [] W w') := Lib.hid (fun W hW => nodeCheck_any n gp go pv ov W (hnr.mod0 hW))
      have HRK : Hid (∀ W, Mod [] wr W → Calls Try.prog 16 #[nodeV n.author n.clock pv ov] W fun e w' => e = .returned (.int .i64 (checkNode n)) ∧ Mod [] W w') := Lib.hid (fun W hW => refNodeCheck_any n gp go pv ov W (hnr.mod0 hW))
      have HCS : Hid (∀ W, Mod [] wr W → Calls Try.prog 17 #[nodeV n.author n.clock pv ov] W fun e w' => e = .returned (.int .i64 (sizeOf_ n)) ∧ Mod [] W w') := Lib.hid (fun W hW => nodeSize_any n gp go pv ov W (hnr.mod0 hW) hnums)
      have HRS : Hid (∀ W, Mod [] wr W → Calls Try.prog 18 #[nodeV n.author n.clock pv ov] W fun e w' => e = .returned (.int .i64 (sizeOf_ n)) ∧ Mod [] W w') := Lib.hid (fun W hW => refNodeSize_any n gp go pv ov W (hnr.mod0 hW) hnums)
      have HCE : Hid (∀ W, Mod [] wr W → Calls Try.prog 10 #[nodeV n.author n.clock pv ov] W (EncP W (encOf n))) := Lib.hid (fun W hW => encode_any n gp go pv ov W (hnr.mod0 hW) hnums)
      have HRE : Hid (∀ W, Mod [] wr W → Calls Try.prog 14 #[nodeV n.author n.clock pv ov] W (EncP W (encOf n))) := Lib.hid (fun W hW => refEncode_any n gp go pv ov W (hnr.mod0 hW) hnums)
      clear hit hx2 hj hnr hnums hx hone HLR
      generalize checkNode n = ck at *
      generalize sizeOf_ n = sz at *
      generalize encOf n = r at *
      generalize n.author = au at *
      generalize n.clock = cl at *
      have hil' : (i : Int) < (l.length : Int) := by omega
      go_wp2_with (first | ((with_reducible refine wpList_load_node _ rfl ?hgd HJ.out ?hx ?_); (case hgd => exact rfl); (case hx => exact rfl)) | ((with_reducible refine wpList_store_node (au := au) (cl := cl) (pv := pv) (ov := ov) _ _ rfl ?hgd ?hx ?hy (Blk.new _ _ _) ?hold ?hp ?hv ?_); (case hgd => exact rfl); (case hx => exact rfl); (case hy => exact rfl); (case hold => exact rfl); (case hp => exact HP1.out); (case hv => exact HP2.out); intro w2 hb2 hm2; have HB2 := Lib.hid hb2; have HM2 : Hid (Mod [] wr w2) := Lib.hid (((Mod.refl [] wr).alloc _).then hm2 (by simp)); obtain ⟨_, _, _, _, HC2⟩ := hb2.open_; clear hb2 hm2) | ((with_reducible refine wpList_load_node _ rfl ?hgd HC2.out ?hx ?_); (case hgd => exact rfl); (case hx => exact rfl)))
      refine (HCE.out w2 HM2.out).mono ?_
      rintro e' w3 ⟨v3, rfl, hown3, hm3, _⟩
      obtain ⟨A3, c3, rfl, _, _⟩ := hown3.val
      have HO3 := Lib.hid hown3
      have HM3 := Lib.hid (HM2.out.trans hm3)
      have HB3 := Lib.hid (HB2.out.mod hm3 (by simp))
      obtain ⟨_, _, _, _, HC3⟩ := HB3.out.open_
      clear hown3 hm3 HC2
      go_wp2_with (first | ((with_reducible refine wpList_load_node _ rfl ?hgd HC3.out ?hx ?_); (case hgd => exact rfl); (case hx => exact rfl)))
      refine (HRE.out w3 HM3.out).mono ?_
      rintro e' w4 ⟨v4, rfl, hown4, hm4, _⟩
      obtain ⟨A4, c4, rfl, _, _⟩ := hown4.val
      have HM4 := Lib.hid (HM3.out.trans hm4)
      have HLD : Hid (∀ W, Mod [] w4 W → CellsAt W wr.heap.size 0 (nodeL au cl pv ov)) := Lib.hid (fun W hW => CellsAt.of_blk (Blk.mod HB3.out (hm4.trans hW) (by simp)))
      have HV3 : Hid (∀ W, Mod [] w4 W → (convert 27 9 (.slice A3 r.1.length c3)).run Try.prog W = .ok (.string ⟨r.1.toArray⟩) W) := Lib.hid (fun W hW => by
        obtain ⟨g3, hb3, _⟩ := (HO3.out.mod (hm4.trans hW) (by simp)).bs
        exact run_str hb3)
      have HV4 : Hid (∀ W, Mod [] w4 W → (convert 27 9 (.slice A4 r.1.length c4)).run Try.prog W = .ok (.string ⟨r.1.toArray⟩) W) := Lib.hid (fun W hW => by
        obtain ⟨g4, hb4, _⟩ := (hown4.mod hW (by simp)).bs
        exact run_str hb4)
      obtain ⟨q, hq⟩ : ∃ q, wr.heap.size = q := ⟨_, rfl⟩
      rw [hq] at HLD ⊢
      clear hown4 hm4 HC3 HO3 HM3 HB3 HB2 HM2 hq HJ
      go_wp2_with fail
      have HF : Hid (Mod [] w4 w4.drew) := Lib.hid (Mod.refl _ w4).drew
      refine wp_regionE (Mod []) (by kernel_rfl) ?_
      simp only [List.size_toArray, List.length_cons, List.length_nil, Nat.zero_add, Nat.reduceAdd]
      refine wpAnyE_takeL (preMod _) 0 (v := ?_) rfl (by kernel_rfl) (by kernel_rfl) (by kernel_rfl) (fun _ _ _ h => h) (Or.inl ⟨by rfl, ?_⟩) ?_
      rotate_left; (intro W hW; (try dsimp only at hW); refine (run_load_cells rtNode (.tmp 4) (by rfl) (by rfl) rfl (HLD.out W (HF.out.trans hW))).trans ?_; try with_reducible rfl)
      (try simp only [Act.put, List.setIfInBounds_toArray, List.set_cons_zero, List.set_cons_succ])
      refine wpAnyE_takeL (preMod _) 2 (v := ?_) rfl (by kernel_rfl) (by kernel_rfl) (by kernel_rfl) (fun _ _ _ h => h) (Or.inl ⟨by rfl, ?_⟩) ?_
      rotate_left; (intro W hW; (try dsimp only at hW); refine (run_load_cells rtNode (.tmp 4) (by rfl) (by rfl) rfl (HLD.out W (HF.out.trans hW))).trans ?_; try with_reducible rfl)
      (try simp only [Act.put, List.setIfInBounds_toArray, List.set_cons_zero, List.set_cons_succ])
      refine wpAnyE_ready (rs := [1]) (by kernel_rfl) (by simp) ?_
      refine AllReadyE.consL rfl (fun K hK => ?_) AllReadyE.nil
      rw [if_pos (by rfl)]
      go_simp
      go_at_call 15
      refine (HCK.out _ (HM4.out.trans HF.out)).mono ?_
      rintro e' w5 ⟨rfl, hm5⟩
      have hmE := hm5
      have HFnew := Lib.hid (HF.out.trans hm5); clear HF; have HF := HFnew; clear HFnew
      go_wp2_with fail
      refine hK.out _ _ (by first | exact hmE | exact Mod.refl _ _ | exact (Mod.refl _ _).alloc _) ?_
      clear hK
      (try simp only [Act.put, List.setIfInBounds_toArray, List.set_cons_zero, List.set_cons_succ])
      refine wpAnyE_ready (rs := [3]) (by kernel_rfl) (by simp) ?_
      refine AllReadyE.consL rfl (fun K hK => ?_) AllReadyE.nil
      rw [if_pos (by rfl)]
      go_simp
      go_at_call 16
      refine (HRK.out _ (HM4.out.trans HF.out)).mono ?_
      rintro e' w6 ⟨rfl, hm6⟩
      have hmE := hm6
      have HFnew := Lib.hid (HF.out.trans hm6); clear HF; have HF := HFnew; clear HFnew
      go_wp2_with fail
      refine hK.out _ _ (by first | exact hmE | exact Mod.refl _ _ | exact (Mod.refl _ _).alloc _) ?_
      clear hK
      (try simp only [Act.put, List.setIfInBounds_toArray, List.set_cons_zero, List.set_cons_succ])
      refine wpAnyE_takeL (preMod _) 4 (v := ?_) rfl (by kernel_rfl) (by kernel_rfl) (by kernel_rfl) (fun _ _ _ h => h) (Or.inl ⟨by rfl, ?_⟩) ?_
      rotate_left; (intro W hW; (try dsimp only at hW); go_simp; try with_reducible rfl)
      (try simp only [Act.put, List.setIfInBounds_toArray, List.set_cons_zero, List.set_cons_succ])
      refine wpAnyE_takeL (preMod _) 5 (v := ?_) rfl (by kernel_rfl) (by kernel_rfl) (by kernel_rfl) (fun _ _ _ h => h) (Or.inl ⟨by rfl, ?_⟩) ?_
      rotate_left; (intro W hW; (try dsimp only at hW); go_simp; try with_reducible rfl)
      (try simp only [Act.put, List.setIfInBounds_toArray, List.set_cons_zero, List.set_cons_succ])
      refine wpAnyE_takeL (preMod _) 6 (v := ?_) rfl (by kernel_rfl) (by kernel_rfl) (by kernel_rfl) (fun _ _ _ h => h) (Or.inl ⟨by rfl, ?_⟩) ?_
      rotate_left; (intro W hW; (try dsimp only at hW); refine (run_load_cells rtNode (.tmp 4) (by rfl) (by rfl) rfl (HLD.out W (HF.out.trans hW))).trans ?_; try with_reducible rfl)
      (try simp only [Act.put, List.setIfInBounds_toArray, List.set_cons_zero, List.set_cons_succ])
      refine wpAnyE_takeL (preMod _) 8 (v := ?_) rfl (by kernel_rfl) (by kernel_rfl) (by kernel_rfl) (fun _ _ _ h => h) (Or.inl ⟨by rfl, ?_⟩) ?_
      rotate_left; (intro W hW; (try dsimp only at hW); refine (run_load_cells rtNode (.tmp 4) (by rfl) (by rfl) rfl (HLD.out W (HF.out.trans hW))).trans ?_; try with_reducible rfl)
      (try simp only [Act.put, List.setIfInBounds_toArray, List.set_cons_zero, List.set_cons_succ])
      refine wpAnyE_ready (rs := [7]) (by kernel_rfl) (by simp) ?_
      refine AllReadyE.consL rfl (fun K hK => ?_) AllReadyE.nil
      rw [if_pos (by rfl)]
      go_simp
      go_at_call 17
      refine (HCS.out _ (HM4.out.trans HF.out)).mono ?_
      rintro e' w7 ⟨rfl, hm7⟩
      have hmE := hm7
      have HFnew := Lib.hid (HF.out.trans hm7); clear HF; have HF := HFnew; clear HFnew
      go_wp2_with fail
      refine hK.out _ _ (by first | exact hmE | exact Mod.refl _ _ | exact (Mod.refl _ _).alloc _) ?_
      clear hK
      (try simp only [Act.put, List.setIfInBounds_toArray, List.set_cons_zero, List.set_cons_succ])
      refine wpAnyE_ready (rs := [9]) (by kernel_rfl) (by simp) ?_
      refine AllReadyE.consL rfl (fun K hK => ?_) AllReadyE.nil
      rw [if_pos (by rfl)]
      go_simp
      go_at_call 18
      refine (HRS.out _ (HM4.out.trans HF.out)).mono ?_
      rintro e' w8 ⟨rfl, hm8⟩
      have hmE := hm8
      have HFnew := Lib.hid (HF.out.trans hm8); clear HF; have HF := HFnew; clear HFnew
      go_wp2_with fail
      refine hK.out _ _ (by first | exact hmE | exact Mod.refl _ _ | exact (Mod.refl _ _).alloc _) ?_
      clear hK
      (try simp only [Act.put, List.setIfInBounds_toArray, List.set_cons_zero, List.set_cons_succ])
      refine wpAnyE_takeL (preMod _) 10 (v := ?_) rfl (by kernel_rfl) (by kernel_rfl) (by kernel_rfl) (fun _ _ _ h => h) (Or.inl ⟨by rfl, ?_⟩) ?_
      rotate_left; (intro W hW; (try dsimp only at hW); go_simp; try with_reducible rfl)
      (try simp only [Act.put, List.setIfInBounds_toArray, List.set_cons_zero, List.set_cons_succ])
      refine wpAnyE_takeL (preMod _) 11 (v := ?_) rfl (by kernel_rfl) (by kernel_rfl) (by kernel_rfl) (fun _ _ _ h => h) (Or.inl ⟨by rfl, ?_⟩) ?_
      rotate_left; (intro W hW; (try dsimp only at hW); go_simp; try with_reducible rfl)
      (try simp only [Act.put, List.setIfInBounds_toArray, List.set_cons_zero, List.set_cons_succ])
      refine wpAnyE_takeL (preMod _) 12 (v := ?_) rfl (by kernel_rfl) (by kernel_rfl) (by kernel_rfl) (fun _ _ _ h => h) (Or.inl ⟨by rfl, ?_⟩) ?_
      rotate_left; (intro W hW; (try dsimp only at hW); go_simp; try with_reducible rfl)
      (try simp only [Act.put, List.setIfInBounds_toArray, List.set_cons_zero, List.set_cons_succ])
      refine wpAnyE_takeL (preMod _) 13 (v := ?_) rfl (by kernel_rfl) (by kernel_rfl) (by kernel_rfl) (fun _ _ _ h => h) (Or.inl ⟨by rfl, ?_⟩) ?_
      rotate_left; (intro W hW; (try dsimp only at hW); go_simp; try with_reducible rfl)
      (try simp only [Act.put, List.setIfInBounds_toArray, List.set_cons_zero, List.set_cons_succ])
      refine wpAnyE_takeL (preMod _) 14 (v := ?_) rfl (by kernel_rfl) (by kernel_rfl) (by kernel_rfl) (fun _ _ _ h => h) (Or.inl ⟨by rfl, ?_⟩) ?_
      rotate_left; (intro W hW; (try dsimp only at hW); go_simp; try with_reducible rfl)
      (try simp only [Act.put, List.setIfInBounds_toArray, List.set_cons_zero, List.set_cons_succ])
      refine wpAnyE_takeL (preMod _) 15 (v := ?_) rfl (by kernel_rfl) (by kernel_rfl) (by kernel_rfl) (fun _ _ _ h => h) (Or.inl ⟨by rfl, ?_⟩) ?_
      rotate_left; (intro W hW; (try dsimp only at hW); go_simp; try with_reducible rfl)
      (try simp only [Act.put, List.setIfInBounds_toArray, List.set_cons_zero, List.set_cons_succ])
      refine wpAnyE_takeL (preMod _) 16 (v := ?_) rfl (by kernel_rfl) (by kernel_rfl) (by kernel_rfl) (fun _ _ _ h => h) (Or.inl ⟨by rfl, ?_⟩) ?_
      rotate_left; (intro W hW; (try dsimp only at hW); go_simp; try with_reducible rfl)
      (try simp only [Act.put, List.setIfInBounds_toArray, List.set_cons_zero, List.set_cons_succ])
      refine wpAnyE_takeL (preMod _) 17 (v := ?_) rfl (by kernel_rfl) (by kernel_rfl) (by kernel_rfl) (fun _ _ _ h => h) (Or.inl ⟨by rfl, ?_⟩) ?_
      rotate_left; (intro W hW; (try dsimp only at hW); go_simp; try with_reducible rfl)
      (try simp only [Act.put, List.setIfInBounds_toArray, List.set_cons_zero, List.set_cons_succ])
      refine wpAnyE_takeL (preMod _) 18 (v := ?_) rfl (by kernel_rfl) (by kernel_rfl) (by kernel_rfl) (fun _ _ _ h => h) (Or.inl ⟨by rfl, ?_⟩) ?_
      rotate_left; (intro W hW; (try dsimp only at hW); go_simp; try with_reducible rfl)
      (try simp only [Act.put, List.setIfInBounds_toArray, List.set_cons_zero, List.set_cons_succ])
      refine wpAnyE_takeL (preMod _) 19 (v := ?_) rfl (by kernel_rfl) (by kernel_rfl) (by kernel_rfl) (fun _ _ _ h => h) (Or.inl ⟨by rfl, ?_⟩) ?_
      rotate_left; (intro W hW; (try dsimp only at hW); (have hcw := HV3.out W (HF.out.trans hW); go_simp); try with_reducible rfl)
      (try simp only [Act.put, List.setIfInBounds_toArray, List.set_cons_zero, List.set_cons_succ])
      refine wpAnyE_takeL (preMod _) 20 (v := ?_) rfl (by kernel_rfl) (by kernel_rfl) (by kernel_rfl) (fun _ _ _ h => h) (Or.inl ⟨by rfl, ?_⟩) ?_
      rotate_left; (intro W hW; (try dsimp only at hW); go_simp; try with_reducible rfl)
      (try simp only [Act.put, List.setIfInBounds_toArray, List.set_cons_zero, List.set_cons_succ])
      refine wpAnyE_takeL (preMod _) 21 (v := ?_) rfl (by kernel_rfl) (by kernel_rfl) (by kernel_rfl) (fun _ _ _ h => h) (Or.inl ⟨by rfl, ?_⟩) ?_
      rotate_left; (intro W hW; (try dsimp only at hW); (have hcw := HV4.out W (HF.out.trans hW); go_simp); try with_reducible rfl)
      (try simp only [Act.put, List.setIfInBounds_toArray, List.set_cons_zero, List.set_cons_succ])
      refine wpAnyE_takeL (preMod _) 22 (v := ?_) rfl (by kernel_rfl) (by kernel_rfl) (by kernel_rfl) (fun _ _ _ h => h) (Or.inl ⟨by rfl, ?_⟩) ?_
      rotate_left; (intro W hW; (try dsimp only at hW); go_simp; try with_reducible rfl)
      (try simp only [Act.put, List.setIfInBounds_toArray, List.set_cons_zero, List.set_cons_succ])
      refine wpAnyE_takeL (preMod _) 23 (v := ?_) rfl (by kernel_rfl) (by kernel_rfl) (by kernel_rfl) (fun _ _ _ h => h) (Or.inl ⟨by rfl, ?_⟩) ?_
      rotate_left; (intro W hW; (try dsimp only at hW); go_simp; try with_reducible rfl)
      (try simp only [Act.put, List.setIfInBounds_toArray, List.set_cons_zero, List.set_cons_succ])
      refine wpAnyE_done (by kernel_rfl) ?_ _
      have HMW := Lib.hid (HM.out.trans (HM4.out.trans HF.out))
      go_wp2_with fail
      go_roundw
      case rel => first | exact ⟨i + 1, by go_num, by omega, HMW⟩ | exact ⟨i + 1, by omega, by omega⟩
      case measure => simp [intOf]; omega
    · have hilf : ¬ ((i : Int) < (l.length : Int)) := by omega
      go_wp2_with fail
      go_ret
      exact ⟨rfl, HM.out⟩
end Go.Proofs.Ytlpjeckhejbkkaa
end

section
set_option linter.unusedVariables false
set_option linter.unusedSimpArgs false
set_option maxRecDepth 20000
set_option maxHeartbeats 400000
namespace Go.Proofs.Ytlpjeckhejbkkaa
open Go.ChangeShapes Go.WideShapes Go.ChangeAt Go.RowKit

variable {H : Type} {enc : TypeId × Value → H} {w : World} {base : Nat} {spare : Nat → Bool} {held : Bool} {fuel : Nat} {x : DataW H × List MemPlace}
theorem open_nodes {cs : List Value} (h : DataW.trod enc Try.prog w base spare held fuel 41 cs = some x) : ∃ (v : Value) (g : Nat) (l : List NV), cs = [v] ∧ NS_ w g v l := by
  rcases DataW.trod_slice Try.underlying41 h with ⟨rfl, _⟩ | ⟨a, len, cap, elems, rest, n, _, rfl, _, _, hl, hm, hlen, hel, _, _⟩
  · exact ⟨_, 0, [], rfl, RS.nil w 4 0, by simp⟩
  · have c4 : Try.prog.cellsOf 26 = 4 := by kernel_rfl
    rw [c4] at hel
    obtain ⟨b, off, spot⟩ := a
    by_cases h0 : 0 < len
    · have each0 : ∀ i, i < len → ∃ o : NV, (∀ k, k < 4 → ∀ u, o.cells[k]? = some u → w.cell? (((⟨b, off, spot⟩ : Addr).add (i * 4)).add k) = some u) ∧ NodR w o.n o.gp o.go o.pv o.ov ∧ ∀ y ∈ o.n.ops, y.nums := fun i hi => by
        have h1 := hel i hi
        rw [List.getElem?_eq_getElem (by omega), Option.bind_eq_some_iff] at h1
        obtain ⟨cs', h2, h3⟩ := h1
        obtain ⟨n, gp, go, pv, ov, rfl, hr, hns⟩ := open_node h3
        obtain ⟨_, _, h6⟩ := World.cells?_some h2
        refine ⟨⟨n, pv, ov, gp, go⟩, fun k hk u hu => ?_, hr, hns⟩
        have h7 := h6 k hk
        have hu' : (nodeL n.author n.clock pv ov)[k]? = some u := hu
        rw [hu'] at h7
        exact h7
      have hs : spot = none := by
        obtain ⟨o, ho, _⟩ := each0 0 h0
        obtain ⟨u, hu⟩ : ∃ u, o.cells[0]? = some u := ⟨_, rfl⟩
        have h7 := ho 0 (by omega) u hu
        have h8 : w.cell? ⟨b, off, spot⟩ = some u := by simpa [Addr.add] using h7
        exact World.cell?_spot h8
      subst hs
      have each : ∀ i, i < len → ∃ o : NV, CellsAt w b (off + i * 4) o.cells ∧ NodR w o.n o.gp o.go o.pv o.ov ∧ ∀ y ∈ o.n.ops, y.nums := fun i hi => by
        obtain ⟨o, ho, hr⟩ := each0 i hi
        refine ⟨o, fun k u hu => ?_, hr⟩
        have hk : k < 4 := by rw [← o.cells_length]; exact (List.getElem?_eq_some_iff.1 hu).1
        have h7 := ho k hk u hu
        rw [Addr.add_mid, Addr.add_mid] at h7
        exact h7
      obtain ⟨l, hll, hp⟩ := list_of (fun i o => CellsAt w b (off + i * 4) (NV.cells o) ∧ NodR w o.n o.gp o.go o.pv o.ov ∧ ∀ y ∈ o.n.ops, y.nums) len each
      subst hll
      have hg : b < w.heap.size := by
        have h1 := (hp 0 h0).1 0 _ rfl
        exact World.block_lt_of_cell? w _ h1
      exact ⟨_, b, l, rfl, RS.of_items NV.cells_length (by omega) hl hm hg (fun i hi => (hp i hi).1), fun o ho => by
        obtain ⟨i, hi, rfl⟩ := List.mem_iff_getElem.1 ho
        exact (hp i hi).2⟩
    · have e : len = 0 := by omega
      subst e
      exact ⟨_, 0, [], rfl, ⟨by simp, _, cap, rfl, hl, hm, fun h => absurd h (by simp)⟩, by simp⟩
end Go.Proofs.Ytlpjeckhejbkkaa
end

section
set_option linter.unusedVariables false
namespace Go.Proofs.Ytlpjeckhejbkkaa
open Go.ChangeShapes Go.WideShapes Go.ChangeAt Go.RowKit

theorem nchecks_own : ownKnob Try.prog.godebug = none := by kernel_rfl
theorem nchecks_laidOut : laidOutB Try.prog = true := by kernel_rfl
set_option maxRecDepth 100000 in
theorem nchecks_lifted (os : Os) (started : os.Started) (H : Type) (enc : TypeId × Value → H) :
    ReturnsInHanded {} Try.checked os 5 .any (Rows.nodeChecksSpec.pre6 enc Try.prog Try.f5 Rows.nodeChecksRow.domain false) (Rows.nodeChecksSpec.post enc Try.prog Try.f5 false true false false) := by
  refine returnsInHanded_of_change_sized (C := Try.checked) nchecks_own started (by kernel_rfl) Try.func5
    (ChangeSpec.witness6 (enc := enc) (C := Try.checked) false ⟨#[], #[.slice none 0 0], []⟩ 8 (by kernel_rfl) (by kernel_rfl) (by kernel_rfl) (by kernel_rfl)) ?_
  intro W base args ds gs before hval0 hW hcnd hsz0 _
  have hsz : (DataW.weightsEach Try.prog (Try.f5.params.toList ++ Rows.nodeChecksSpec.plain.varTypes Try.prog) (ds ++ gs)).all (· ≤ reachBytes) = true := hsz0
  clear hsz0
  have hval : ∀ (j : Nat) t v, Try.f5.params[j]? = some t → args[j]? = some v → Value.okWide Try.prog W .any base t v := hval0
  have hW' := hW
  obtain ⟨p, q, hA0, hV, rfl, hfz, hnd⟩ := hW
  have hA : DataW.TrodAll enc Try.prog W 0 (fun _ => true) true Try.f5.params.toList args.toList ds p := hA0
  rw [Try.params5] at hA hval hsz
  obtain ⟨v0, vs0, d0, ds0, p0, q0, hargs, rfl, rfl, h0, r0⟩ := trodAll_cons hA
  obtain ⟨rfl, rfl, rfl⟩ := trodAll_nil r0
  obtain rfl : args = #[v0] := by cases args; simp_all
  obtain ⟨rfl, rfl⟩ := trodVars_none hV
  obtain ⟨b0, len0, cap0, rfl⟩ := okWide_slice Try.underlying41 (hval 0 41 v0 rfl rfl)
  have k0 := h0
  have lt0 : ∀ x ∈ p0, x.block < W.heap.size := by obtain ⟨m, hm⟩ := k0; exact DataW.trod_lt m _ _ _ hm
  obtain ⟨g0, l0, w0⟩ : ∃ g l, NS_ W g (.slice b0 len0 cap0) l := by
    obtain ⟨fuel, hf⟩ := h0
    obtain ⟨v, g, l, hcs, hos⟩ := open_nodes hf
    simp [Value.cells] at hcs
    subst hcs
    exact ⟨g, l, hos⟩
  clear hA0 hval0
  refine (nodeChecks_any l0 g0 _ W w0).mono fun e W' ⟨he, hm⟩ => ?_
  have bel : Below W.heap.size W W' := hm.below (by simp)
  subst he
  exact ⟨_, rfl, _, _, _, [], _, [], hW', trodAll_mk1 (shut_bool Try.underlying4 _), (trodAll_cons_mk (Below.trod nchecks_laidOut (by kernel_rfl) (of_decide_eq_true (by kernel_rfl)) k0 bel lt0) trodAll_mk0), rfl, bel.frame _, fun h => by cases h⟩
theorem nchecks_over : Rows.nodeChecksRow.holds Try.pinned (OpenSpec.ofChange Rows.nodeChecksSpec) :=
  OpenClaim.holds_of_wide 5 Try.f5 rfl rfl rfl rfl rfl rfl rfl ⟨rfl, rfl, rfl, rfl, rfl⟩ rfl rfl rfl rfl rfl (by kernel_rfl) Try.func5 (by kernel_rfl)
    (of_decide_eq_true (by kernel_rfl)) (by unfold Func.isWrapper; first | (rw [if_pos (by decide +kernel)]; kernel_rfl) | (rw [if_neg (by decide +kernel)]; exact ⟨rfl, rfl⟩))
    (fun os started H enc _ => nchecks_lifted os started H enc)
theorem nodeChecks : Rows.NodeChecksSaid := nchecks_over
#print axioms nodeChecks
end Go.Proofs.Ytlpjeckhejbkkaa
end
