import Derived.Test.YtlpjeckhejbkkaaNLay
import Derived.Test.YtlpjeckhejbkkaaRegOps
set_option linter.unusedVariables false
set_option linter.unusedSimpArgs false
set_option maxRecDepth 20000
set_option maxHeartbeats 1600000
namespace Go.Proofs.Ytlpjeckhejbkkaa
open Go.RowKit

/-! ### which transactions are the same -/
def nodeEq (a b : GNode) : Bool := decide (a.author = b.author) && decide (a.clock = b.clock) && decide (a.parents = b.parents) && decide (a.ops = b.ops)
theorem nodeEq_iff (a b : GNode) : nodeEq a b = true ↔ a = b := by
  unfold nodeEq
  simp only [Bool.and_eq_true, decide_eq_true_eq]
  exact ⟨fun ⟨⟨⟨h1, h2⟩, h3⟩, h4⟩ => by cases a; cases b; simp_all, fun h => by rw [h]; simp⟩
theorem nodeEq_true {a b : GNode} (h1 : a.author = b.author) (h2 : a.clock = b.clock) (h3 : a.parents = b.parents) (h4 : a.ops = b.ops) : nodeEq a b = true := (nodeEq_iff a b).2 (by cases a; cases b; simp_all)
theorem nodeEq_false {a b : GNode} (h : a.author ≠ b.author ∨ a.clock ≠ b.clock ∨ a.parents ≠ b.parents ∨ a.ops ≠ b.ops) : nodeEq a b = false := by
  cases he : nodeEq a b with
  | false => rfl
  | true =>
    have := (nodeEq_iff a b).1 he
    subst this
    simp at h
/-- two transactions in variables of their own, and their lists -/
structure TwoN (w : World) (q1 q2 : Nat) (a b : GNode) (g1 o1 g2 o2 : Nat) (pv ov pu ou : Value) (wr : World) : Prop where
  n1 : NodB wr q1 a.author a.clock pv ov
  n2 : NodB wr q2 b.author b.clock pu ou
  r1 : NodR wr a g1 o1 pv ov
  r2 : NodR wr b g2 o2 pu ou
  md : Mod [] w wr
theorem TwoN.mod {w wr w' : World} {q1 q2 : Nat} {a b : GNode} {g1 o1 g2 o2 : Nat} {pv ov pu ou : Value} (h : TwoN w q1 q2 a b g1 o1 g2 o2 pv ov pu ou wr) (hm : Mod [] wr w') : TwoN w q1 q2 a b g1 o1 g2 o2 pv ov pu ou w' :=
  ⟨h.n1.mod hm (by simp), h.n2.mod hm (by simp), h.r1.mod0 hm, h.r2.mod0 hm, h.md.trans hm⟩
theorem refNodeSame_any (a b : GNode) (g1 o1 g2 o2 : Nat) (pv ov pu ou : Value) (w : World) (h1 : NodR w a g1 o1 pv ov) (h2 : NodR w b g2 o2 pu ou) :
    Calls Try.prog 13 #[nodeV a.author a.clock pv ov, nodeV b.author b.clock pu ou] w fun e w' => e = .returned (.bool (nodeEq a b)) ∧ Mod [] w w' := by
  obtain ⟨pA, pc, rfl, hp1, hp2⟩ := h1.ps.val
  obtain ⟨oA, oc, rfl, ho1, ho2⟩ := h1.os.val
  obtain ⟨pB, pd, rfl, hs1, hs2⟩ := h2.ps.val
  obtain ⟨oB, od, rfl, hr1, hr2⟩ := h2.os.val
  unfold maxLen at hp2 ho2 hs2 hr2
  have HR1 := Lib.hid h1; clear h1
  have HR2 := Lib.hid h2; clear h2
  obtain ⟨au, cl, ps, os⟩ := a
  obtain ⟨bu, bl, qs, us⟩ := b
  dsimp only at *
  by_cases hall : au = bu ∧ cl = bl ∧ ps.length = qs.length ∧ os.length = us.length
  · obtain ⟨rfl, rfl, hpl, hol⟩ := hall
    rw [hpl] at hp1
    rw [hol] at ho1
    have HPL := Lib.hid hpl
    have HOL := Lib.hid hol
    rw [hpl, hol]
    have HT0 : Hid (NodR w ⟨au, cl, ps, os⟩ g1 o1 (.slice pA qs.length pc) (.slice oA us.length oc)) := Lib.hid (by have h := HR1.out; rw [hpl, hol] at h; exact h)
    clear hpl hol HR1
    go_enter Try.func13, Try.ntmps13
    go_upto_region 1 with (first | ((with_reducible refine wpList_box_node _ rfl ?hgd (au := au) (cl := cl) (pv := .slice pA qs.length pc) (ov := .slice oA us.length oc) ?hx ?_); (case hgd => exact rfl); (case hx => exact rfl); intro q1 w1 hv1 hm1 hq1 hl1; have HV1 := Lib.hid hv1; have HM1 := Lib.hid hm1; clear hv1 hm1) | ((with_reducible refine wpList_box_node _ rfl ?hgd (au := au) (cl := cl) (pv := .slice pB qs.length pd) (ov := .slice oB us.length od) ?hx ?_); (case hgd => exact rfl); (case hx => exact rfl); intro q2 w2 hv2 hm2 hq2 hl2; have HT : Hid (TwoN w q1 q2 ⟨au, cl, ps, os⟩ ⟨au, cl, qs, us⟩ g1 o1 g2 o2 (.slice pA qs.length pc) (.slice oA us.length oc) (.slice pB qs.length pd) (.slice oB us.length od) w2) := Lib.hid ⟨HV1.out.mod hm2 (by simp), hv2, HT0.out.mod0 (HM1.out.trans hm2), HR2.out.mod0 (HM1.out.trans hm2), HM1.out.trans hm2⟩; clear hv2 hm2))
    clear HV1 HM1
    obtain ⟨c0, c1, c2, c3, _⟩ := HT.out.n1.open_
    obtain ⟨d0, d1, d2, d3, _⟩ := HT.out.n2.open_
    go_wp2_with fail
    clear c0 c1 c2 c3 d0 d1 d2 d3
    go_loopw [5] (fun s5 wr => ∃ i : Nat, s5 = .int .i64 (i : Int) ∧ i ≤ qs.length ∧ Hid (ps.take i = qs.take i) ∧ Hid (TwoN w q1 q2 ⟨au, cl, ps, os⟩ ⟨au, cl, qs, us⟩ g1 o1 g2 o2 (.slice pA qs.length pc) (.slice oA us.length oc) (.slice pB qs.length pd) (.slice oB us.length od) wr)) (fun s _ => qs.length - (intOf s).toNat)
    case atStart => exact ⟨0, rfl, by omega, Lib.hid rfl, HT⟩
    case round =>
      obtain ⟨i, rfl, hi, HTK, HT1⟩ := hrel
      clear HT
      obtain ⟨c0, c1, c2, c3, _⟩ := HT1.out.n1.open_
      obtain ⟨d0, d1, d2, d3, _⟩ := HT1.out.n2.open_
      by_cases hil : i < qs.length
      · have hil1 : i < ps.length := by have := HPL.out; omega
        obtain ⟨f1, ca, hv1, _, _, _, hA⟩ := HS.item HT1.out.r1.ps (show 0 < ps.length by omega)
        obtain ⟨f2, cb, hv2, _, _, _, hB⟩ := HS.item HT1.out.r2.ps (show 0 < qs.length by omega)
        injection hv1 with hx1 hx2 hx3
        injection hv2 with hy1 hy2 hy3
        subst hx1 hx3 hy1 hy3
        have HA := Lib.hid (hA i hil1)
        have HB := Lib.hid (hB i hil)
        clear hA hB hx2 hy2
        have hil' : (i : Int) < (qs.length : Int) := by omega
        go_wp2_with fail
        have hw0 : Mod [] wr wr.drew := (Mod.refl _ wr).drew
        have HC2 : Hid (∀ W, Mod [] wr W → W.cell? ⟨q1, 2, none⟩ = some (.slice (some ⟨g1, f1, none⟩) qs.length pc)) := Lib.hid (fun W hW => (HT1.out.mod hW).n1.open_.2.2.1)
        have HD2 : Hid (∀ W, Mod [] wr W → W.cell? ⟨q2, 2, none⟩ = some (.slice (some ⟨g2, f2, none⟩) qs.length pd)) := Lib.hid (fun W hW => (HT1.out.mod hW).n2.open_.2.2.1)
        have HLA : Hid (∀ W, Mod [] wr W → CellsAt W g1 (f1 + i * 32) ps[i].cells) := Lib.hid (fun W hW => CellsAt.mod HA.out hW (by simp))
        have HLB : Hid (∀ W, Mod [] wr W → CellsAt W g2 (f2 + i * 32) qs[i].cells) := Lib.hid (fun W hW => CellsAt.mod HB.out hW (by simp))
        clear c0 c1 c2 c3 d0 d1 d2 d3
        refine wp_regionE (Mod []) (by kernel_rfl) ?_
        simp only [List.size_toArray, List.length_cons, List.length_nil, Nat.zero_add, Nat.reduceAdd]
        refine wpAnyE_takeL (preMod _) 0 (v := ?_) rfl (by kernel_rfl) (by kernel_rfl) (by kernel_rfl) (fun _ _ _ h => h) (Or.inl ⟨by rfl, ?_⟩) ?_
        rotate_left; (intro W hW; (try dsimp only at hW); go_simp; try with_reducible rfl)
        (try simp only [Act.put, List.setIfInBounds_toArray, List.set_cons_zero, List.set_cons_succ])
        refine wpAnyE_takeL (preMod _) 1 (v := ?_) rfl (by kernel_rfl) (by kernel_rfl) (by kernel_rfl) (fun _ _ _ h => h) (Or.inl ⟨by rfl, ?_⟩) ?_
        rotate_left; (intro W hW; (try dsimp only at hW); (have hcw := HC2.out W (hw0.trans hW); go_simp); try with_reducible rfl)
        (try simp only [Act.put, List.setIfInBounds_toArray, List.set_cons_zero, List.set_cons_succ])
        refine wpAnyE_takeL (preMod _) 2 (v := ?_) rfl (by kernel_rfl) (by kernel_rfl) (by kernel_rfl) (fun _ _ _ h => h) (Or.inl ⟨by rfl, ?_⟩) ?_
        rotate_left; (intro W hW; (try dsimp only at hW); go_simp; try with_reducible rfl)
        (try simp only [Act.put, List.setIfInBounds_toArray, List.set_cons_zero, List.set_cons_succ])
        refine wpAnyE_takeL (preMod _) 3 (v := ?_) rfl (by kernel_rfl) (by kernel_rfl) (by kernel_rfl) (fun _ _ _ h => h) (Or.inl ⟨by rfl, ?_⟩) ?_
        rotate_left; (intro W hW; (try dsimp only at hW); go_simp; try with_reducible rfl)
        (try simp only [Act.put, List.setIfInBounds_toArray, List.set_cons_zero, List.set_cons_succ])
        refine wpAnyE_takeL (preMod _) 4 (v := ?_) rfl (by kernel_rfl) (by kernel_rfl) (by kernel_rfl) (fun _ _ _ h => h) (Or.inl ⟨by rfl, ?_⟩) ?_
        rotate_left; (intro W hW; (try dsimp only at hW); refine (run_load_cells rtHash (.tmp 47) (by rfl) (by rfl) (GHash.cells_length _) (HLA.out W (hw0.trans hW))).trans ?_; change Result.ok (Next.value (GHash.val ps[i])) W = _; try with_reducible rfl)
        (try simp only [Act.put, List.setIfInBounds_toArray, List.set_cons_zero, List.set_cons_succ])
        refine wpAnyE_takeL (preMod _) 5 (v := ?_) rfl (by kernel_rfl) (by kernel_rfl) (by kernel_rfl) (fun _ _ _ h => h) (Or.inl ⟨by rfl, ?_⟩) ?_
        rotate_left; (intro W hW; (try dsimp only at hW); go_simp; try with_reducible rfl)
        (try simp only [Act.put, List.setIfInBounds_toArray, List.set_cons_zero, List.set_cons_succ])
        refine wpAnyE_takeL (preMod _) 6 (v := ?_) rfl (by kernel_rfl) (by kernel_rfl) (by kernel_rfl) (fun _ _ _ h => h) (Or.inl ⟨by rfl, ?_⟩) ?_
        rotate_left; (intro W hW; (try dsimp only at hW); (have hcw := HD2.out W (hw0.trans hW); go_simp); try with_reducible rfl)
        (try simp only [Act.put, List.setIfInBounds_toArray, List.set_cons_zero, List.set_cons_succ])
        refine wpAnyE_takeL (preMod _) 7 (v := ?_) rfl (by kernel_rfl) (by kernel_rfl) (by kernel_rfl) (fun _ _ _ h => h) (Or.inl ⟨by rfl, ?_⟩) ?_
        rotate_left; (intro W hW; (try dsimp only at hW); go_simp; try with_reducible rfl)
        (try simp only [Act.put, List.setIfInBounds_toArray, List.set_cons_zero, List.set_cons_succ])
        refine wpAnyE_takeL (preMod _) 8 (v := ?_) rfl (by kernel_rfl) (by kernel_rfl) (by kernel_rfl) (fun _ _ _ h => h) (Or.inl ⟨by rfl, ?_⟩) ?_
        rotate_left; (intro W hW; (try dsimp only at hW); go_simp; try with_reducible rfl)
        (try simp only [Act.put, List.setIfInBounds_toArray, List.set_cons_zero, List.set_cons_succ])
        refine wpAnyE_takeL (preMod _) 9 (v := ?_) rfl (by kernel_rfl) (by kernel_rfl) (by kernel_rfl) (fun _ _ _ h => h) (Or.inl ⟨by rfl, ?_⟩) ?_
        rotate_left; (intro W hW; (try dsimp only at hW); refine (run_load_cells rtHash (.tmp 52) (by rfl) (by rfl) (GHash.cells_length _) (HLB.out W (hw0.trans hW))).trans ?_; change Result.ok (Next.value (GHash.val qs[i])) W = _; try with_reducible rfl)
        (try simp only [Act.put, List.setIfInBounds_toArray, List.set_cons_zero, List.set_cons_succ])
        refine wpAnyE_takeL (preMod _) 10 (v := ?_) rfl (by kernel_rfl) (by kernel_rfl) (by kernel_rfl) (fun _ _ _ h => h) (Or.inl ⟨by rfl, ?_⟩) ?_
        rotate_left; (intro W hW; (try dsimp only at hW); go_simp; try with_reducible rfl)
        (try simp only [Act.put, List.setIfInBounds_toArray, List.set_cons_zero, List.set_cons_succ])
        refine wpAnyE_done (by kernel_rfl) ?_ _
        have HT2 := Lib.hid (HT1.out.mod hw0)
        clear HC2 HD2 HLA HLB HA HB
        by_cases heq : (ps[i] == qs[i]) = true
        · rw [heq]
          have HE := Lib.hid (eq_of_beq heq)
          clear heq
          go_wp2_with fail
          go_roundw
          case rel =>
            refine ⟨i + 1, by go_num, by omega, Lib.hid ?_, HT2⟩
            rw [List.take_succ_eq_append_getElem hil1, List.take_succ_eq_append_getElem hil, HTK.out, HE.out]
          case measure => simp [intOf]; omega
        · rw [Bool.not_eq_true] at heq
          rw [heq]
          have HF : Hid (nodeEq ⟨au, cl, ps, os⟩ ⟨au, cl, qs, us⟩ = false) := Lib.hid (nodeEq_false (.inr (.inr (.inl (fun h => by change ps = qs at h; subst h; simp at heq)))))
          clear heq
          go_wp2_with fail
          go_ret
          exact ⟨ret_bool HF.out.symm, HT2.out.md⟩
      · have hie : i = qs.length := by omega
        have hps : ps = qs := by
          have h := HTK.out
          rw [hie, List.take_length, ← HPL.out, List.take_length] at h
          exact h
        have HPS := Lib.hid hps
        clear hie hps HTK
        have hilf : ¬ ((i : Int) < (qs.length : Int)) := by omega
        go_wp2_with fail
        clear c0 c1 c2 c3 d0 d1 d2 d3 hilf hil hi
        obtain ⟨wl, hwl⟩ : ∃ wl : World, wl = wr := ⟨_, rfl⟩
        rw [← hwl] at HT1 ⊢
        clear hwl
        go_loopw [6] (fun s6 wr => ∃ i : Nat, s6 = .int .i64 (i : Int) ∧ i ≤ us.length ∧ Hid (os.take i = us.take i) ∧ Hid (TwoN w q1 q2 ⟨au, cl, ps, os⟩ ⟨au, cl, qs, us⟩ g1 o1 g2 o2 (.slice pA qs.length pc) (.slice oA us.length oc) (.slice pB qs.length pd) (.slice oB us.length od) wr)) (fun s _ => us.length - (intOf s).toNat)
        case atStart => exact ⟨0, rfl, by omega, Lib.hid rfl, HT1⟩
        case round =>
          obtain ⟨i, rfl, hi, HTK, HT⟩ := hrel
          clear HT1
          obtain ⟨c0, c1, c2, c3, _⟩ := HT.out.n1.open_
          obtain ⟨d0, d1, d2, d3, _⟩ := HT.out.n2.open_
          by_cases hil : i < us.length
          · have hil1 : i < os.length := by have := HOL.out; omega
            obtain ⟨f1, ca, hv1, _, _, _, hA⟩ := OS.item HT.out.r1.os (show 0 < os.length by omega)
            obtain ⟨f2, cb, hv2, _, _, _, hB⟩ := OS.item HT.out.r2.os (show 0 < us.length by omega)
            injection hv1 with hx1 hx2 hx3
            injection hv2 with hy1 hy2 hy3
            subst hx1 hx3 hy1 hy3
            have HA := Lib.hid (hA i hil1)
            have HB := Lib.hid (hB i hil)
            clear hA hB hx2 hy2
            have hil' : (i : Int) < (us.length : Int) := by omega
            go_wp2_with fail
            have hw0 : Mod [] wr wr.drew := (Mod.refl _ wr).drew
            have HC2 : Hid (∀ W, Mod [] wr W → W.cell? ⟨q1, 3, none⟩ = some (.slice (some ⟨o1, f1, none⟩) us.length oc)) := Lib.hid (fun W hW => (HT.out.mod hW).n1.open_.2.2.2.1)
            have HD2 : Hid (∀ W, Mod [] wr W → W.cell? ⟨q2, 3, none⟩ = some (.slice (some ⟨o2, f2, none⟩) us.length od)) := Lib.hid (fun W hW => (HT.out.mod hW).n2.open_.2.2.2.1)
            have HLA : Hid (∀ W, Mod [] wr W → CellsAt W o1 (f1 + i * 37) os[i].cells) := Lib.hid (fun W hW => CellsAt.mod HA.out hW (by simp))
            have HLB : Hid (∀ W, Mod [] wr W → CellsAt W o2 (f2 + i * 37) us[i].cells) := Lib.hid (fun W hW => CellsAt.mod HB.out hW (by simp))
            clear c0 c1 c2 c3 d0 d1 d2 d3
            refine wp_regionE (Mod []) (by kernel_rfl) ?_
            simp only [List.size_toArray, List.length_cons, List.length_nil, Nat.zero_add, Nat.reduceAdd]
            refine wpAnyE_takeL (preMod _) 0 (v := ?_) rfl (by kernel_rfl) (by kernel_rfl) (by kernel_rfl) (fun _ _ _ h => h) (Or.inl ⟨by rfl, ?_⟩) ?_
            rotate_left; (intro W hW; (try dsimp only at hW); go_simp; try with_reducible rfl)
            (try simp only [Act.put, List.setIfInBounds_toArray, List.set_cons_zero, List.set_cons_succ])
            refine wpAnyE_takeL (preMod _) 1 (v := ?_) rfl (by kernel_rfl) (by kernel_rfl) (by kernel_rfl) (fun _ _ _ h => h) (Or.inl ⟨by rfl, ?_⟩) ?_
            rotate_left; (intro W hW; (try dsimp only at hW); (have hcw := HC2.out W (hw0.trans hW); go_simp); try with_reducible rfl)
            (try simp only [Act.put, List.setIfInBounds_toArray, List.set_cons_zero, List.set_cons_succ])
            refine wpAnyE_takeL (preMod _) 2 (v := ?_) rfl (by kernel_rfl) (by kernel_rfl) (by kernel_rfl) (fun _ _ _ h => h) (Or.inl ⟨by rfl, ?_⟩) ?_
            rotate_left; (intro W hW; (try dsimp only at hW); go_simp; try with_reducible rfl)
            (try simp only [Act.put, List.setIfInBounds_toArray, List.set_cons_zero, List.set_cons_succ])
            refine wpAnyE_takeL (preMod _) 3 (v := ?_) rfl (by kernel_rfl) (by kernel_rfl) (by kernel_rfl) (fun _ _ _ h => h) (Or.inl ⟨by rfl, ?_⟩) ?_
            rotate_left; (intro W hW; (try dsimp only at hW); go_simp; try with_reducible rfl)
            (try simp only [Act.put, List.setIfInBounds_toArray, List.set_cons_zero, List.set_cons_succ])
            refine wpAnyE_takeL (preMod _) 4 (v := ?_) rfl (by kernel_rfl) (by kernel_rfl) (by kernel_rfl) (fun _ _ _ h => h) (Or.inl ⟨by rfl, ?_⟩) ?_
            rotate_left; (intro W hW; (try dsimp only at hW); refine (run_load_cells rtOp (.tmp 65) (by rfl) (by rfl) (GOp.cells_length _) (HLA.out W (hw0.trans hW))).trans ?_; try with_reducible rfl)
            (try simp only [Act.put, List.setIfInBounds_toArray, List.set_cons_zero, List.set_cons_succ])
            refine wpAnyE_takeL (preMod _) 5 (v := ?_) rfl (by kernel_rfl) (by kernel_rfl) (by kernel_rfl) (fun _ _ _ h => h) (Or.inl ⟨by rfl, ?_⟩) ?_
            rotate_left; (intro W hW; (try dsimp only at hW); go_simp; try with_reducible rfl)
            (try simp only [Act.put, List.setIfInBounds_toArray, List.set_cons_zero, List.set_cons_succ])
            refine wpAnyE_takeL (preMod _) 6 (v := ?_) rfl (by kernel_rfl) (by kernel_rfl) (by kernel_rfl) (fun _ _ _ h => h) (Or.inl ⟨by rfl, ?_⟩) ?_
            rotate_left; (intro W hW; (try dsimp only at hW); (have hcw := HD2.out W (hw0.trans hW); go_simp); try with_reducible rfl)
            (try simp only [Act.put, List.setIfInBounds_toArray, List.set_cons_zero, List.set_cons_succ])
            refine wpAnyE_takeL (preMod _) 7 (v := ?_) rfl (by kernel_rfl) (by kernel_rfl) (by kernel_rfl) (fun _ _ _ h => h) (Or.inl ⟨by rfl, ?_⟩) ?_
            rotate_left; (intro W hW; (try dsimp only at hW); go_simp; try with_reducible rfl)
            (try simp only [Act.put, List.setIfInBounds_toArray, List.set_cons_zero, List.set_cons_succ])
            refine wpAnyE_takeL (preMod _) 8 (v := ?_) rfl (by kernel_rfl) (by kernel_rfl) (by kernel_rfl) (fun _ _ _ h => h) (Or.inl ⟨by rfl, ?_⟩) ?_
            rotate_left; (intro W hW; (try dsimp only at hW); go_simp; try with_reducible rfl)
            (try simp only [Act.put, List.setIfInBounds_toArray, List.set_cons_zero, List.set_cons_succ])
            refine wpAnyE_takeL (preMod _) 9 (v := ?_) rfl (by kernel_rfl) (by kernel_rfl) (by kernel_rfl) (fun _ _ _ h => h) (Or.inl ⟨by rfl, ?_⟩) ?_
            rotate_left; (intro W hW; (try dsimp only at hW); refine (run_load_cells rtOp (.tmp 70) (by rfl) (by rfl) (GOp.cells_length _) (HLB.out W (hw0.trans hW))).trans ?_; try with_reducible rfl)
            (try simp only [Act.put, List.setIfInBounds_toArray, List.set_cons_zero, List.set_cons_succ])
            refine wpAnyE_ready (rs := [10]) (by kernel_rfl) (by simp) ?_
            refine AllReadyE.consL rfl (fun K hK => ?_) AllReadyE.nil
            rw [if_pos (by rfl)]
            go_simp
            go_at_call 29
            refine (refSame_any os[i] us[i] _).mono ?_
            rintro e' w9 ⟨rfl, hm9⟩
            have hmE := hm9
            have HM9 : Hid (Mod [] wr w9) := Lib.hid (hw0.trans hm9)
            go_wp2_with fail
            refine hK.out _ _ (by first | exact hmE | exact Mod.refl _ _ | exact (Mod.refl _ _).alloc _) ?_
            clear hK
            (try simp only [Act.put, List.setIfInBounds_toArray, List.set_cons_zero, List.set_cons_succ])
            refine wpAnyE_takeL (preMod _) 11 (v := ?_) rfl (by kernel_rfl) (by kernel_rfl) (by kernel_rfl) (fun _ _ _ h => h) (Or.inl ⟨by rfl, ?_⟩) ?_
            rotate_left; (intro W hW; (try dsimp only at hW); go_simp; try with_reducible rfl)
            (try simp only [Act.put, List.setIfInBounds_toArray, List.set_cons_zero, List.set_cons_succ])
            refine wpAnyE_done (by kernel_rfl) ?_ _
            have HT2 := Lib.hid (HT.out.mod HM9.out)
            clear HC2 HD2 HLA HLB HA HB HM9
            by_cases heq : (os[i] == us[i]) = true
            · rw [heq]
              have HE := Lib.hid (eq_of_beq heq)
              clear heq
              go_wp2_with fail
              go_roundw
              case rel =>
                refine ⟨i + 1, by go_num, by omega, Lib.hid ?_, HT2⟩
                rw [List.take_succ_eq_append_getElem hil1, List.take_succ_eq_append_getElem hil, HTK.out, HE.out]
              case measure => simp [intOf]; omega
            · rw [Bool.not_eq_true] at heq
              rw [heq]
              have HF : Hid (nodeEq ⟨au, cl, ps, os⟩ ⟨au, cl, qs, us⟩ = false) := Lib.hid (nodeEq_false (.inr (.inr (.inr (fun h => by change os = us at h; subst h; simp at heq)))))
              clear heq
              go_wp2_with fail
              go_ret
              exact ⟨ret_bool HF.out.symm, HT2.out.md⟩
          · have hie : i = us.length := by omega
            have hos : os = us := by
              have h := HTK.out
              rw [hie, List.take_length, ← HOL.out, List.take_length] at h
              exact h
            have HF : Hid (nodeEq ⟨au, cl, ps, os⟩ ⟨au, cl, qs, us⟩ = true) := Lib.hid (nodeEq_true rfl rfl HPS.out hos)
            have hilf : ¬ ((i : Int) < (us.length : Int)) := by omega
            clear hie hos HTK
            go_wp2_with fail
            go_ret
            exact ⟨ret_bool HF.out.symm, HT.out.md⟩
  · have HF : Hid (nodeEq ⟨au, cl, ps, os⟩ ⟨bu, bl, qs, us⟩ = false) := Lib.hid (nodeEq_false (by
      by_cases h1 : au = bu
      · by_cases h2 : cl = bl
        · by_cases h3 : ps.length = qs.length
          · exact .inr (.inr (.inr (fun h => hall ⟨h1, h2, h3, by change os = us at h; rw [h]⟩)))
          · exact .inr (.inr (.inl (fun h => h3 (by change ps = qs at h; rw [h]))))
        · exact .inr (.inl h2)
      · exact .inl h1))
    rw [HF.out]
    have HALL : Hid (au = bu → cl = bl → ((ps.length : Int) = qs.length) → ((os.length : Int) != us.length) = false → False) := Lib.hid (fun h1 h2 h3 h4 => hall ⟨h1, h2, by omega, by simp at h4; omega⟩)
    clear hall
    go_enter Try.func13, Try.ntmps13
    go_upto_region 1 with (first | ((with_reducible refine wpList_box_node _ rfl ?hgd (au := au) (cl := cl) (pv := .slice pA ps.length pc) (ov := .slice oA os.length oc) ?hx ?_); (case hgd => exact rfl); (case hx => exact rfl); intro q1 w1 hv1 hm1 hq1 hl1; have HV1 := Lib.hid hv1; have HM1 := Lib.hid hm1; clear hv1 hm1) | ((with_reducible refine wpList_box_node _ rfl ?hgd (au := bu) (cl := bl) (pv := .slice pB qs.length pd) (ov := .slice oB us.length od) ?hx ?_); (case hgd => exact rfl); (case hx => exact rfl); intro q2 w2 hv2 hm2 hq2 hl2; have HT : Hid (TwoN w q1 q2 ⟨au, cl, ps, os⟩ ⟨bu, bl, qs, us⟩ g1 o1 g2 o2 (.slice pA ps.length pc) (.slice oA os.length oc) (.slice pB qs.length pd) (.slice oB us.length od) w2) := Lib.hid ⟨HV1.out.mod hm2 (by simp), hv2, HR1.out.mod0 (HM1.out.trans hm2), HR2.out.mod0 (HM1.out.trans hm2), HM1.out.trans hm2⟩; clear hv2 hm2))
    clear HV1 HM1
    obtain ⟨c0, c1, c2, c3, _⟩ := HT.out.n1.open_
    obtain ⟨d0, d1, d2, d3, _⟩ := HT.out.n2.open_
    go_wp2_with fail
    all_goals first | (go_ret; exact ⟨rfl, HT.out.md⟩) | (exfalso; exact HALL.out (by assumption) (by assumption) (by assumption) (by assumption))
end Go.Proofs.Ytlpjeckhejbkkaa
