import Derived.Test.YtlpjeckhejbkkaaG4
section
set_option linter.unusedVariables false
set_option linter.unusedSimpArgs false
set_option maxRecDepth 20000
set_option maxHeartbeats 1600000
namespace Go.Proofs.Ytlpjeckhejbkkaa
open Go.RowKit

/-! ### which transactions are the same -/
def nodeEq (a b : GNode) : Bool := decide (a.author = b.author) && decide (a.clock = b.clock) && decide (a.parents = b.parents) && decide (a.ops = b.ops)
theorem nodeEq_iff (a b : GNode) : nodeEq a b = true ↔ a = b := by
  unfold nodeEq
  simp only [Bool.and_eq_true, decide_eq_true_eq]
  exact ⟨fun ⟨⟨⟨h1, h2⟩, h3⟩, h4⟩ => by cases a; cases b; simp_all, fun h => by rw [h]; simp⟩
theorem nodeEq_true {a b : GNode} (h1 : a.author = b.author) (h2 : a.clock = b.clock) (h3 : a.parents = b.parents) (h4 : a.ops = b.ops) : nodeEq a b = true := (nodeEq_iff a b).2 (by cases a; cases b; simp_all)
theorem nodeEq_false {a b : GNode} (h : a.author ≠ b.author ∨ a.clock ≠ b.clock ∨ a.parents ≠ b.parents ∨ a.ops ≠ b.ops) : nodeEq a b = false := by
  cases he : nodeEq a b with
  | false => rfl
  | true =>
    have := (nodeEq_iff a b).1 he
    subst this
    simp at h
/-- two transactions in variables of their own, and their lists -/
structure TwoN (w : World) (q1 q2 : Nat) (a b : GNode) (g1 o1 g2 o2 : Nat) (pv ov pu ou : Value) (wr : World) : Prop where
  n1 : NodB wr q1 a.author a.clock pv ov
  n2 : NodB wr q2 b.author b.clock pu ou
  r1 : NodR wr a g1 o1 pv ov
  r2 : NodR wr b g2 o2 pu ou
  md : Mod [] w wr
theorem TwoN.mod {w wr w' : World} {q1 q2 : Nat} {a b : GNode} {g1 o1 g2 o2 : Nat} {pv ov pu ou : Value} (h : TwoN w q1 q2 a b g1 o1 g2 o2 pv ov pu ou wr) (hm : Mod [] wr w') : TwoN w q1 q2 a b g1 o1 g2 o2 pv ov pu ou w' :=
  ⟨h.n1.mod hm (by simp), h.n2.mod hm (by simp), h.r1.mod0 hm, h.r2.mod0 hm, h.md.trans hm⟩
theorem refNodeSame_any (a b : GNode) (g1 o1 g2 o2 : Nat) (pv ov pu ou : Value) (w : World) (h1 : NodR w a g1 o1 pv ov) (h2 : NodR w b g2 o2 pu ou) :
    Calls Try.prog 13 #[nodeV a.author a.clock pv ov, nodeV b.author b.clock pu ou] w fun e w' => e = .returned (.bool (nodeEq a b)) ∧ Mod [] w w' := by
  obtain ⟨pA, pc, rfl, hp1, hp2⟩ := h1.ps.val
  obtain ⟨oA, oc, rfl, ho1, ho2⟩ := h1.os.val
  obtain ⟨pB, pd, rfl, hs1, hs2⟩ := h2.ps.val
  obtain ⟨oB, od, rfl, hr1, hr2⟩ := h2.os.val
  unfold maxLen at hp2 ho2 hs2 hr2
  have HR1 := Lib.hid h1; clear h1
  have HR2 := Lib.hid h2; clear h2
  obtain ⟨au, cl, ps, os⟩ := a
  obtain ⟨bu, bl, qs, us⟩ := b
  dsimp only at *
  by_cases hall : au = bu ∧ cl = bl ∧ ps.length = qs.length ∧ os.length = us.length
  · obtain ⟨rfl, rfl, hpl, hol⟩ := hall
    rw [hpl] at hp1
    rw [hol] at ho1
    have HPL := Lib.hid hpl
    have HOL := Lib.hid hol
    rw [hpl, hol]
    have HT0 : Hid (NodR w ⟨au, cl, ps, os⟩ g1 o1 (.slice pA qs.length pc) (.slice oA us.length oc)) := Lib.hid (by have h := HR1.out; rw [hpl, hol] at h; exact h)
    clear hpl hol HR1
    go_enter Try.func13, Try.ntmps13
    go_upto_region 1 with (first | ((with_reducible refine wpList_box_node _ rfl ?hgd (au := au) (cl := cl) (pv := .slice pA qs.length pc) (ov := .slice oA us.length oc) ?hx ?_); (case hgd => exact rfl); (case hx => exact rfl); intro q1 w1 hv1 hm1 hq1 hl1; have HV1 := Lib.hid hv1; have HM1 := Lib.hid hm1; clear hv1 hm1) | ((with_reducible refine wpList_box_node _ rfl ?hgd (au := au) (cl := cl) (pv := .slice pB qs.length pd) (ov := .slice oB us.length od) ?hx ?_); (case hgd => exact rfl); (case hx => exact rfl); intro q2 w2 hv2 hm2 hq2 hl2; have HT : Hid (TwoN w q1 q2 ⟨au, cl, ps, os⟩ ⟨au, cl, qs, us⟩ g1 o1 g2 o2 (.slice pA qs.length pc) (.slice oA us.length oc) (.slice pB qs.length pd) (.slice oB us.length od) w2) := Lib.hid ⟨HV1.out.mod hm2 (by simp), hv2, HT0.out.mod0 (HM1.out.trans hm2), HR2.out.mod0 (HM1.out.trans hm2), HM1.out.trans hm2⟩; clear hv2 hm2))
    clear HV1 HM1
    obtain ⟨c0, c1, c2, c3, _⟩ := HT.out.n1.open_
    obtain ⟨d0, d1, d2, d3, _⟩ := HT.out.n2.open_
    go_wp2_with fail
    clear c0 c1 c2 c3 d0 d1 d2 d3
    go_loopw [5] (fun s5 wr => ∃ i : Nat, s5 = .int .i64 (i : Int) ∧ i ≤ qs.length ∧ Hid (ps.take i = qs.take i) ∧ Hid (TwoN w q1 q2 ⟨au, cl, ps, os⟩ ⟨au, cl, qs, us⟩ g1 o1 g2 o2 (.slice pA qs.length pc) (.slice oA us.length oc) (.slice pB qs.length pd) (.slice oB us.length od) wr)) (fun s _ => qs.length - (intOf s).toNat)
    case atStart => exact ⟨0, rfl, by omega, Lib.hid rfl, HT⟩
    case round =>
      obtain ⟨i, rfl, hi, HTK, HT1⟩ := hrel
      clear HT
      obtain ⟨c0, c1, c2, c3, _⟩ := HT1.out.n1.open_
      obtain ⟨d0, d1, d2, d3, _⟩ := HT1.out.n2.open_
      by_cases hil : i < qs.length
      · have hil1 : i < ps.length := by have := HPL.out; omega
        obtain ⟨f1, ca, hv1, _, _, _, hA⟩ := HS.item HT1.out.r1.ps (show 0 < ps.length by omega)
        obtain ⟨f2, cb, hv2, _, _, _, hB⟩ := HS.item HT1.out.r2.ps (show 0 < qs.length by omega)
        injection hv1 with hx1 hx2 hx3
        injection hv2 with hy1 hy2 hy3
        subst hx1 hx3 hy1 hy3
        have HA := Lib.hid (hA i hil1)
        have HB := Lib.hid (hB i hil)
        clear hA hB hx2 hy2
        have hil' : (i : Int) < (qs.length : Int) := by omega
        go_wp2_with fail
        have hw0 : Mod [] wr wr.drew := (Mod.refl _ wr).drew
        have HC2 : Hid (∀ W, Mod [] wr W → W.cell? ⟨q1, 2, none⟩ = some (.slice (some ⟨g1, f1, none⟩) qs.length pc)) := Lib.hid (fun W hW => (HT1.out.mod hW).n1.open_.2.2.1)
        have HD2 : Hid (∀ W, Mod [] wr W → W.cell? ⟨q2, 2, none⟩ = some (.slice (some ⟨g2, f2, none⟩) qs.length pd)) := Lib.hid (fun W hW => (HT1.out.mod hW).n2.open_.2.2.1)
        have HLA : Hid (∀ W, Mod [] wr W → CellsAt W g1 (f1 + i * 32) ps[i].cells) := Lib.hid (fun W hW => CellsAt.mod HA.out hW (by simp))
        have HLB : Hid (∀ W, Mod [] wr W → CellsAt W g2 (f2 + i * 32) qs[i].cells) := Lib.hid (fun W hW => CellsAt.mod HB.out hW (by simp))
        clear c0 c1 c2 c3 d0 d1 d2 d3
        refine wp_regionE (Mod []) (by kernel_rfl) ?_
        simp only [List.size_toArray, List.length_cons, List.length_nil, Nat.zero_add, Nat.reduceAdd]
        refine wpAnyE_takeL (preMod _) 0 (v := ?_) rfl (by kernel_rfl) (by kernel_rfl) (by kernel_rfl) (fun _ _ _ h => h) (Or.inl ⟨by rfl, ?_⟩) ?_
        rotate_left; (intro W hW; (try dsimp only at hW); go_simp; try with_reducible rfl)
        (try simp only [Act.put, List.setIfInBounds_toArray, List.set_cons_zero, List.set_cons_succ])
        refine wpAnyE_takeL (preMod _) 1 (v := ?_) rfl (by kernel_rfl) (by kernel_rfl) (by kernel_rfl) (fun _ _ _ h => h) (Or.inl ⟨by rfl, ?_⟩) ?_
        rotate_left; (intro W hW; (try dsimp only at hW); (have hcw := HC2.out W (hw0.trans hW); go_simp); try with_reducible rfl)
        (try simp only [Act.put, List.setIfInBounds_toArray, List.set_cons_zero, List.set_cons_succ])
        refine wpAnyE_takeL (preMod _) 2 (v := ?_) rfl (by kernel_rfl) (by kernel_rfl) (by kernel_rfl) (fun _ _ _ h => h) (Or.inl ⟨by rfl, ?_⟩) ?_
        rotate_left; (intro W hW; (try dsimp only at hW); go_simp; try with_reducible rfl)
        (try simp only [Act.put, List.setIfInBounds_toArray, List.set_cons_zero, List.set_cons_succ])
        refine wpAnyE_takeL (preMod _) 3 (v := ?_) rfl (by kernel_rfl) (by kernel_rfl) (by kernel_rfl) (fun _ _ _ h => h) (Or.inl ⟨by rfl, ?_⟩) ?_
        rotate_left; (intro W hW; (try dsimp only at hW); go_simp; try with_reducible rfl)
        (try simp only [Act.put, List.setIfInBounds_toArray, List.set_cons_zero, List.set_cons_succ])
        refine wpAnyE_takeL (preMod _) 4 (v := ?_) rfl (by kernel_rfl) (by kernel_rfl) (by kernel_rfl) (fun _ _ _ h => h) (Or.inl ⟨by rfl, ?_⟩) ?_
        rotate_left; (intro W hW; (try dsimp only at hW); refine (run_load_cells rtHash (.tmp 47) (by rfl) (by rfl) (GHash.cells_length _) (HLA.out W (hw0.trans hW))).trans ?_; change Result.ok (Next.value (GHash.val ps[i])) W = _; try with_reducible rfl)
        (try simp only [Act.put, List.setIfInBounds_toArray, List.set_cons_zero, List.set_cons_succ])
        refine wpAnyE_takeL (preMod _) 5 (v := ?_) rfl (by kernel_rfl) (by kernel_rfl) (by kernel_rfl) (fun _ _ _ h => h) (Or.inl ⟨by rfl, ?_⟩) ?_
        rotate_left; (intro W hW; (try dsimp only at hW); go_simp; try with_reducible rfl)
        (try simp only [Act.put, List.setIfInBounds_toArray, List.set_cons_zero, List.set_cons_succ])
        refine wpAnyE_takeL (preMod _) 6 (v := ?_) rfl (by kernel_rfl) (by kernel_rfl) (by kernel_rfl) (fun _ _ _ h => h) (Or.inl ⟨by rfl, ?_⟩) ?_
        rotate_left; (intro W hW; (try dsimp only at hW); (have hcw := HD2.out W (hw0.trans hW); go_simp); try with_reducible rfl)
        (try simp only [Act.put, List.setIfInBounds_toArray, List.set_cons_zero, List.set_cons_succ])
        refine wpAnyE_takeL (preMod _) 7 (v := ?_) rfl (by kernel_rfl) (by kernel_rfl) (by kernel_rfl) (fun _ _ _ h => h) (Or.inl ⟨by rfl, ?_⟩) ?_
        rotate_left; (intro W hW; (try dsimp only at hW); go_simp; try with_reducible rfl)
        (try simp only [Act.put, List.setIfInBounds_toArray, List.set_cons_zero, List.set_cons_succ])
        refine wpAnyE_takeL (preMod _) 8 (v := ?_) rfl (by kernel_rfl) (by kernel_rfl) (by kernel_rfl) (fun _ _ _ h => h) (Or.inl ⟨by rfl, ?_⟩) ?_
        rotate_left; (intro W hW; (try dsimp only at hW); go_simp; try with_reducible rfl)
        (try simp only [Act.put, List.setIfInBounds_toArray, List.set_cons_zero, List.set_cons_succ])
        refine wpAnyE_takeL (preMod _) 9 (v := ?_) rfl (by kernel_rfl) (by kernel_rfl) (by kernel_rfl) (fun _ _ _ h => h) (Or.inl ⟨by rfl, ?_⟩) ?_
        rotate_left; (intro W hW; (try dsimp only at hW); refine (run_load_cells rtHash (.tmp 52) (by rfl) (by rfl) (GHash.cells_length _) (HLB.out W (hw0.trans hW))).trans ?_; change Result.ok (Next.value (GHash.val qs[i])) W = _; try with_reducible rfl)
        (try simp only [Act.put, List.setIfInBounds_toArray, List.set_cons_zero, List.set_cons_succ])
        refine wpAnyE_takeL (preMod _) 10 (v := ?_) rfl (by kernel_rfl) (by kernel_rfl) (by kernel_rfl) (fun _ _ _ h => h) (Or.inl ⟨by rfl, ?_⟩) ?_
        rotate_left; (intro W hW; (try dsimp only at hW); go_simp; try with_reducible rfl)
        (try simp only [Act.put, List.setIfInBounds_toArray, List.set_cons_zero, List.set_cons_succ])
        refine wpAnyE_done (by kernel_rfl) ?_ _
        have HT2 := Lib.hid (HT1.out.mod hw0)
        clear HC2 HD2 HLA HLB HA HB
        by_cases heq : (ps[i] == qs[i]) = true
        · rw [heq]
          have HE := Lib.hid (eq_of_beq heq)
          clear heq
          go_wp2_with fail
          go_roundw
          case rel =>
            refine ⟨i + 1, by go_num, by omega, Lib.hid ?_, HT2⟩
            rw [List.take_succ_eq_append_getElem hil1, List.take_succ_eq_append_getElem hil, HTK.out, HE.out]
          case measure => simp [intOf]; omega
        · rw [Bool.not_eq_true] at heq
          rw [heq]
          have HF : Hid (nodeEq ⟨au, cl, ps, os⟩ ⟨au, cl, qs, us⟩ = false) := Lib.hid (nodeEq_false (.inr (.inr (.inl (fun h => by change ps = qs at h; subst h; simp at heq)))))
          clear heq
          go_wp2_with fail
          go_ret
          exact ⟨ret_bool HF.out.symm, HT2.out.md⟩
      · have hie : i = qs.length := by omega
        have hps : ps = qs := by
          have h := HTK.out
          rw [hie, List.take_length, ← HPL.out, List.take_length] at h
          exact h
        have HPS := Lib.hid hps
        clear hie hps HTK
        have hilf : ¬ ((i : Int) < (qs.length : Int)) := by omega
        go_wp2_with fail
        clear c0 c1 c2 c3 d0 d1 d2 d3 hilf hil hi
        obtain ⟨wl, hwl⟩ : ∃ wl : World, wl = wr := ⟨_, rfl⟩
        rw [← hwl] at HT1 ⊢
        clear hwl
        go_loopw [6] (fun s6 wr => ∃ i : Nat, s6 = .int .i64 (i : Int) ∧ i ≤ us.length ∧ Hid (os.take i = us.take i) ∧ Hid (TwoN w q1 q2 ⟨au, cl, ps, os⟩ ⟨au, cl, qs, us⟩ g1 o1 g2 o2 (.slice pA qs.length pc) (.slice oA us.length oc) (.slice pB qs.length pd) (.slice oB us.length od) wr)) (fun s _ => us.length - (intOf s).toNat)
        case atStart => exact ⟨0, rfl, by omega, Lib.hid rfl, HT1⟩
        case round =>
          obtain ⟨i, rfl, hi, HTK, HT⟩ := hrel
          clear HT1
          obtain ⟨c0, c1, c2, c3, _⟩ := HT.out.n1.open_
          obtain ⟨d0, d1, d2, d3, _⟩ := HT.out.n2.open_
          by_cases hil : i < us.length
          · have hil1 : i < os.length := by have := HOL.out; omega
            obtain ⟨f1, ca, hv1, _, _, _, hA⟩ := OS.item HT.out.r1.os (show 0 < os.length by omega)
            obtain ⟨f2, cb, hv2, _, _, _, hB⟩ := OS.item HT.out.r2.os (show 0 < us.length by omega)
            injection hv1 with hx1 hx2 hx3
            injection hv2 with hy1 hy2 hy3
            subst hx1 hx3 hy1 hy3
            have HA := Lib.hid (hA i hil1)
            have HB := Lib.hid (hB i hil)
            clear hA hB hx2 hy2
            have hil' : (i : Int) < (us.length : Int) := by omega
            go_wp2_with fail
            have hw0 : Mod [] wr wr.drew := (Mod.refl _ wr).drew
            have HC2 : Hid (∀ W, Mod [] wr W → W.cell? ⟨q1, 3, none⟩ = some (.slice (some ⟨o1, f1, none⟩) us.length oc)) := Lib.hid (fun W hW => (HT.out.mod hW).n1.open_.2.2.2.1)
            have HD2 : Hid (∀ W, Mod [] wr W → W.cell? ⟨q2, 3, none⟩ = some (.slice (some ⟨o2, f2, none⟩) us.length od)) := Lib.hid (fun W hW => (HT.out.mod hW).n2.open_.2.2.2.1)
            have HLA : Hid (∀ W, Mod [] wr W → CellsAt W o1 (f1 + i * 37) os[i].cells) := Lib.hid (fun W hW => CellsAt.mod HA.out hW (by simp))
            have HLB : Hid (∀ W, Mod [] wr W → CellsAt W o2 (f2 + i * 37) us[i].cells) := Lib.hid (fun W hW => CellsAt.mod HB.out hW (by simp))
            clear c0 c1 c2 c3 d0 d1 d2 d3
            refine wp_regionE (Mod []) (by kernel_rfl) ?_
            simp only [List.size_toArray, List.length_cons, List.length_nil, Nat.zero_add, Nat.reduceAdd]
            refine wpAnyE_takeL (preMod _) 0 (v := ?_) rfl (by kernel_rfl) (by kernel_rfl) (by kernel_rfl) (fun _ _ _ h => h) (Or.inl ⟨by rfl, ?_⟩) ?_
            rotate_left; (intro W hW; (try dsimp only at hW); go_simp; try with_reducible rfl)
            (try simp only [Act.put, List.setIfInBounds_toArray, List.set_cons_zero, List.set_cons_succ])
            refine wpAnyE_takeL (preMod _) 1 (v := ?_) rfl (by kernel_rfl) (by kernel_rfl) (by kernel_rfl) (fun _ _ _ h => h) (Or.inl ⟨by rfl, ?_⟩) ?_
            rotate_left; (intro W hW; (try dsimp only at hW); (have hcw := HC2.out W (hw0.trans hW); go_simp); try with_reducible rfl)
            (try simp only [Act.put, List.setIfInBounds_toArray, List.set_cons_zero, List.set_cons_succ])
            refine wpAnyE_takeL (preMod _) 2 (v := ?_) rfl (by kernel_rfl) (by kernel_rfl) (by kernel_rfl) (fun _ _ _ h => h) (Or.inl ⟨by rfl, ?_⟩) ?_
            rotate_left; (intro W hW; (try dsimp only at hW); go_simp; try with_reducible rfl)
            (try simp only [Act.put, List.setIfInBounds_toArray, List.set_cons_zero, List.set_cons_succ])
            refine wpAnyE_takeL (preMod _) 3 (v := ?_) rfl (by kernel_rfl) (by kernel_rfl) (by kernel_rfl) (fun _ _ _ h => h) (Or.inl ⟨by rfl, ?_⟩) ?_
            rotate_left; (intro W hW; (try dsimp only at hW); go_simp; try with_reducible rfl)
            (try simp only [Act.put, List.setIfInBounds_toArray, List.set_cons_zero, List.set_cons_succ])
            refine wpAnyE_takeL (preMod _) 4 (v := ?_) rfl (by kernel_rfl) (by kernel_rfl) (by kernel_rfl) (fun _ _ _ h => h) (Or.inl ⟨by rfl, ?_⟩) ?_
            rotate_left; (intro W hW; (try dsimp only at hW); refine (run_load_cells rtOp (.tmp 65) (by rfl) (by rfl) (GOp.cells_length _) (HLA.out W (hw0.trans hW))).trans ?_; try with_reducible rfl)
            (try simp only [Act.put, List.setIfInBounds_toArray, List.set_cons_zero, List.set_cons_succ])
            refine wpAnyE_takeL (preMod _) 5 (v := ?_) rfl (by kernel_rfl) (by kernel_rfl) (by kernel_rfl) (fun _ _ _ h => h) (Or.inl ⟨by rfl, ?_⟩) ?_
            rotate_left; (intro W hW; (try dsimp only at hW); go_simp; try with_reducible rfl)
            (try simp only [Act.put, List.setIfInBounds_toArray, List.set_cons_zero, List.set_cons_succ])
            refine wpAnyE_takeL (preMod _) 6 (v := ?_) rfl (by kernel_rfl) (by kernel_rfl) (by kernel_rfl) (fun _ _ _ h => h) (Or.inl ⟨by rfl, ?_⟩) ?_
            rotate_left; (intro W hW; (try dsimp only at hW); (have hcw := HD2.out W (hw0.trans hW); go_simp); try with_reducible rfl)
            (try simp only [Act.put, List.setIfInBounds_toArray, List.set_cons_zero, List.set_cons_succ])
            refine wpAnyE_takeL (preMod _) 7 (v := ?_) rfl (by kernel_rfl) (by kernel_rfl) (by kernel_rfl) (fun _ _ _ h => h) (Or.inl ⟨by rfl, ?_⟩) ?_
            rotate_left; (intro W hW; (try dsimp only at hW); go_simp; try with_reducible rfl)
            (try simp only [Act.put, List.setIfInBounds_toArray, List.set_cons_zero, List.set_cons_succ])
            refine wpAnyE_takeL (preMod _) 8 (v := ?_) rfl (by kernel_rfl) (by kernel_rfl) (by kernel_rfl) (fun _ _ _ h => h) (Or.inl ⟨by rfl, ?_⟩) ?_
            rotate_left; (intro W hW; (try dsimp only at hW); go_simp; try with_reducible rfl)
            (try simp only [Act.put, List.setIfInBounds_toArray, List.set_cons_zero, List.set_cons_succ])
            refine wpAnyE_takeL (preMod _) 9 (v := ?_) rfl (by kernel_rfl) (by kernel_rfl) (by kernel_rfl) (fun _ _ _ h => h) (Or.inl ⟨by rfl, ?_⟩) ?_
            rotate_left; (intro W hW; (try dsimp only at hW); refine (run_load_cells rtOp (.tmp 70) (by rfl) (by rfl) (GOp.cells_length _) (HLB.out W (hw0.trans hW))).trans ?_; try with_reducible rfl)
            (try simp only [Act.put, List.setIfInBounds_toArray, List.set_cons_zero, List.set_cons_succ])
            refine wpAnyE_ready (rs := [10]) (by kernel_rfl) (by simp) ?_
            refine AllReadyE.consL rfl (fun K hK => ?_) AllReadyE.nil
            rw [if_pos (by rfl)]
            go_simp
            go_at_call 29
            refine (refSame_any os[i] us[i] _).mono ?_
            rintro e' w9 ⟨rfl, hm9⟩
            have hmE := hm9
            have HM9 : Hid (Mod [] wr w9) := Lib.hid (hw0.trans hm9)
            go_wp2_with fail
            refine hK.out _ _ (by first | exact hmE | exact Mod.refl _ _ | exact (Mod.refl _ _).alloc _) ?_
            clear hK
            (try simp only [Act.put, List.setIfInBounds_toArray, List.set_cons_zero, List.set_cons_succ])
            refine wpAnyE_takeL (preMod _) 11 (v := ?_) rfl (by kernel_rfl) (by kernel_rfl) (by kernel_rfl) (fun _ _ _ h => h) (Or.inl ⟨by rfl, ?_⟩) ?_
            rotate_left; (intro W hW; (try dsimp only at hW); go_simp; try with_reducible rfl)
            (try simp only [Act.put, List.setIfInBounds_toArray, List.set_cons_zero, List.set_cons_succ])
            refine wpAnyE_done (by kernel_rfl) ?_ _
            have HT2 := Lib.hid (HT.out.mod HM9.out)
            clear HC2 HD2 HLA HLB HA HB HM9
            by_cases heq : (os[i] == us[i]) = true
            · rw [heq]
              have HE := Lib.hid (eq_of_beq heq)
              clear heq
              go_wp2_with fail
              go_roundw
              case rel =>
                refine ⟨i + 1, by go_num, by omega, Lib.hid ?_, HT2⟩
                rw [List.take_succ_eq_append_getElem hil1, List.take_succ_eq_append_getElem hil, HTK.out, HE.out]
              case measure => simp [intOf]; omega
            · rw [Bool.not_eq_true] at heq
              rw [heq]
              have HF : Hid (nodeEq ⟨au, cl, ps, os⟩ ⟨au, cl, qs, us⟩ = false) := Lib.hid (nodeEq_false (.inr (.inr (.inr (fun h => by change os = us at h; subst h; simp at heq)))))
              clear heq
              go_wp2_with fail
              go_ret
              exact ⟨ret_bool HF.out.symm, HT2.out.md⟩
          · have hie : i = us.length := by omega
            have hos : os = us := by
              have h := HTK.out
              rw [hie, List.take_length, ← HOL.out, List.take_length] at h
              exact h
            have HF : Hid (nodeEq ⟨au, cl, ps, os⟩ ⟨au, cl, qs, us⟩ = true) := Lib.hid (nodeEq_true rfl rfl HPS.out hos)
            have hilf : ¬ ((i : Int) < (us.length : Int)) := by omega
            clear hie hos HTK
            go_wp2_with fail
            go_ret
            exact ⟨ret_bool HF.out.symm, HT.out.md⟩
  · have HF : Hid (nodeEq ⟨au, cl, ps, os⟩ ⟨bu, bl, qs, us⟩ = false) := Lib.hid (nodeEq_false (by
      by_cases h1 : au = bu
      · by_cases h2 : cl = bl
        · by_cases h3 : ps.length = qs.length
          · exact .inr (.inr (.inr (fun h => hall ⟨h1, h2, h3, by change os = us at h; rw [h]⟩)))
          · exact .inr (.inr (.inl (fun h => h3 (by change ps = qs at h; rw [h]))))
        · exact .inr (.inl h2)
      · exact .inl h1))
    rw [HF.out]
    have HALL : Hid (au = bu → cl = bl → ((ps.length : Int) = qs.length) → ((os.length : Int) != us.length) = false → False) := Lib.hid (fun h1 h2 h3 h4 => hall ⟨h1, h2, by omega, by simp at h4; omega⟩)
    clear hall
    go_enter Try.func13, Try.ntmps13
    go_upto_region 1 with (first | ((with_reducible refine wpList_box_node _ rfl ?hgd (au := au) (cl := cl) (pv := .slice pA ps.length pc) (ov := .slice oA os.length oc) ?hx ?_); (case hgd => exact rfl); (case hx => exact rfl); intro q1 w1 hv1 hm1 hq1 hl1; have HV1 := Lib.hid hv1; have HM1 := Lib.hid hm1; clear hv1 hm1) | ((with_reducible refine wpList_box_node _ rfl ?hgd (au := bu) (cl := bl) (pv := .slice pB qs.length pd) (ov := .slice oB us.length od) ?hx ?_); (case hgd => exact rfl); (case hx => exact rfl); intro q2 w2 hv2 hm2 hq2 hl2; have HT : Hid (TwoN w q1 q2 ⟨au, cl, ps, os⟩ ⟨bu, bl, qs, us⟩ g1 o1 g2 o2 (.slice pA ps.length pc) (.slice oA os.length oc) (.slice pB qs.length pd) (.slice oB us.length od) w2) := Lib.hid ⟨HV1.out.mod hm2 (by simp), hv2, HR1.out.mod0 (HM1.out.trans hm2), HR2.out.mod0 (HM1.out.trans hm2), HM1.out.trans hm2⟩; clear hv2 hm2))
    clear HV1 HM1
    obtain ⟨c0, c1, c2, c3, _⟩ := HT.out.n1.open_
    obtain ⟨d0, d1, d2, d3, _⟩ := HT.out.n2.open_
    go_wp2_with fail
    all_goals first | (go_ret; exact ⟨rfl, HT.out.md⟩) | (exfalso; exact HALL.out (by assumption) (by assumption) (by assumption) (by assumption))
end Go.Proofs.Ytlpjeckhejbkkaa
end

section
set_option linter.unusedVariables false
set_option linter.unusedSimpArgs false
set_option maxRecDepth 20000
set_option maxHeartbeats 3200000
namespace Go.Proofs.Ytlpjeckhejbkkaa
open Go.RowKit

/-! ### a transaction is read -/
def rdTail (xs : Bytes) (au : Int) (cl : Int) (ps : List GHash) (p5 : Nat) : Rd GNode :=
  (rdOps xs p5).bind fun ops p6 => if p6 < xs.length then .bad 23 p6 else .ok ⟨au, cl, ps, ops⟩ p6
def rdNode3 (xs : Bytes) (au : Int) (clock p3 : Nat) : Rd GNode :=
  if clock = 0 then .bad 51 2 else
    (rdNum xs p3 64).bind fun many p4 => if decide (clock = 1) = decide (many = 0) then (rdHashes xs many p4 []).bind (rdTail xs au clock) else .bad 51 2
def rdNode2 (xs : Bytes) (au : UInt8) (p2 : Nat) : Rd GNode :=
  if 1 ≤ au.toNat ∧ au.toNat ≤ 8 then (rdNum xs p2 4096).bind (rdNode3 xs au.toNat) else .bad 50 1
def rdNode1 (xs : Bytes) (form : UInt8) (p1 : Nat) : Rd GNode := if form = 1 then (rdByte xs p1).bind (rdNode2 xs) else .bad 5 0
def rdNodeE (xs : Bytes) : Rd GNode := (rdByte xs 0).bind (rdNode1 xs)
theorem rdNode_E (xs : Bytes) : rdNode xs = if 1048576 < xs.length then .bad 4 1048576 else rdNodeE xs := by
  unfold rdNode
  congr 1
  unfold rdNodeE rdNode0
  rw [Rd.bind_assoc]
  congr 1; funext form p1
  unfold rdNode1
  split
  · rw [Rd.bind_assoc]
    congr 1; funext au p2
    unfold rdNode2
    split
    · rw [Rd.bind_assoc]
      congr 1; funext clock p3
      unfold rdNode3
      split
      · rfl
      · rw [Rd.bind_assoc]
        congr 1; funext many p4
        split
        · rw [Rd.bind_assoc]
          congr 1; funext ps p5
          unfold rdTail
          rw [Rd.bind_assoc]
          rfl
        · rfl
    · rfl
  · rfl
theorem StopP.later {w wr w' : World} {r p why at_ : Nat} {e : Ending} (hm : Mod [p, r] w wr) (h : StopP wr r p why at_ e w') : StopP w r p why at_ e w' := by
  obtain ⟨q, he, hb, hr, hm2, hq⟩ := h
  exact ⟨q, he, hb, hr, hm.trans hm2, Nat.le_trans hm.size hq⟩
def OwnH (w : World) (v : Value) (l : List GHash) : Prop := w.ownsRow 0 46 32 v l.length (l.flatMap GHash.cells)
theorem OwnH.nil (w : World) : OwnH w (.slice none 0 0) [] := own_nil w _ _
theorem OwnH.mod {w w' : World} {v : Value} {l : List GHash} {S : List Nat} (h : OwnH w v l) (hm : Mod S w w') (hd : ∀ b ∈ blks v, b ∉ S) : OwnH w' v l := own_mod h hm hd
theorem OwnH.lt {w : World} {v : Value} {l : List GHash} (h : OwnH w v l) : ∀ b ∈ blks v, b < w.heap.size := own_lt h
theorem OwnH.val {w : World} {v : Value} {l : List GHash} (h : OwnH w v l) : ∃ A cap, v = .slice A l.length cap ∧ l.length ≤ cap ∧ cap ≤ maxLen := own_slice h
theorem OwnH.hs {w : World} {v : Value} {l : List GHash} (h : OwnH w v l) : ∃ g, HS w g v l ∧ (0 < l.length → g ∈ blks v) := by
  obtain ⟨g, h1, h2⟩ := RS.of_own h
  exact ⟨g, h1, fun h0 => by simp [blks, h2 h0]⟩
theorem hashes_one (l : List GHash) : ∀ u ∈ l.flatMap GHash.cells, u.oneCell' = true := by
  intro u hu
  obtain ⟨o, _, ho⟩ := List.mem_flatMap.1 hu
  exact o.one u ho
theorem wpList_append_hashes {ops : Array Oper} {rest : List Oper} {o : Oper} {a : Act} {Q : Exit → Act → World → Prop} {w : World} (hgd : Region.wanted o (yielded ops a.tmps) = true) (s x : Operand)
    (ho : o.op = .call { callee := .builtin .append, args := #[s, x], argTypes := #[23, 23] })
    {v : Value} {xs : List GHash} (hown : OwnH w v xs) (hs : a.eval s = v) {g : Nat} {sv : Value} {ys : List GHash} (hr : HS w g sv ys) (hx : a.eval x = sv)
    (h : ∀ A' n' cap' w', OwnH w' (.slice A' n' cap') (xs ++ ys) → Hid (n' = xs.length + ys.length) → Mod (blks v) w w' → Hid (∀ b ∈ blks (.slice A' n' cap'), b ∈ blks v ∨ b = w.heap.size) → wpList Try.prog ops Q rest (a.put o.dst (.slice A' n' cap')) w') (hz : xs.length + ys.length ≤ 6000000000000) :
    wpList Try.prog ops Q (o :: rest) a w := by
  refine wpList_append_rs etHashes hgd s x ho hown hs hr hx (hashes_one ys) (by unfold maxLen; omega) (by omega) fun A' cap' w' h1 h2 h3 => h A' _ cap' w' ?_ (Lib.hid rfl) h2 (Lib.hid h3)
  unfold OwnH
  rw [List.length_append, List.flatMap_append]
  exact h1
theorem wpList_buildSlice_hash {ops : Array Oper} {rest : List Oper} {op : Oper} {a : Act} {w : World} {Q : Exit → Act → World → Prop} (x : Operand) (ho : op.op = .buildSlice 23 1 #[(0, x)]) (hgd : Region.wanted op (yielded ops a.tmps) = true) {o : GHash} (hx : a.eval x = o.val)
    (h : ∀ g w1, HS w1 g (.slice (some ⟨g, 0, none⟩) 1 1) [o] → Mod [] w w1 → w.heap.size ≤ g → g < w1.heap.size → wpList Try.prog ops Q rest (a.put op.dst (.slice (some ⟨g, 0, none⟩) 1 1)) w1) : wpList Try.prog ops Q (op :: rest) a w :=
  wpList_buildSlice1 etHashes (by omega) x ho hgd (v := o.val) (cs := o.cells) rfl o.cells_length hx fun g w1 h1 _ h2 h3 h4 => h g w1 (by simpa [HS] using h1) h2 h3 h4
theorem wpList_store_node {ops : Array Oper} {rest : List Oper} {op : Oper} {a : Act} {w : World} {Q : Exit → Act → World → Prop} (x y : Operand) (ho : op.op = .store 26 x y) (hgd : Region.wanted op (yielded ops a.tmps) = true) {g : Nat} {au cl : Int} {pv ov : Value} {old : Array Value} (hx : a.eval x = .pointer (some ⟨g, 0, none⟩)) (hy : a.eval y = nodeV au cl pv ov) (hb : Blk w g 26 old) (hold : old.size = 4)
    (hp : pv.oneCell' = true) (hv : ov.oneCell' = true)
    (h : ∀ w', NodB w' g au cl pv ov → Mod [g] w w' → wpList Try.prog ops Q rest (a.put op.dst undef) w') : wpList Try.prog ops Q (op :: rest) a w :=
  wpList_store_blk rtNode x y ho hgd hx hy hb rfl hold (by intro u hu; simp only [nodeL, List.mem_cons, List.mem_nil_iff, or_false] at hu; rcases hu with rfl | rfl | rfl | rfl; rfl; rfl; exact hp; exact hv) h
/-- the state within: the reader, the transaction so far, the result's variable -/
structure NS (w : World) (r p g : Nat) (xs : Bytes) (pos q2 q3 : Nat) (au cl : Int) (pv ov : Value) (wr : World) : Prop where
  rd : RdrB wr r p g xs pos
  nod : NodB wr q3 au cl pv ov
  res : NodB wr q2 0 0 (.slice none 0 0) (.slice none 0 0)
  md : Mod [p, r] w wr
  ne : q2 ≠ q3
  b2 : w.heap.size ≤ q2
  b3 : w.heap.size ≤ q3
  lt : p < w.heap.size ∧ r < w.heap.size ∧ (0 < xs.length → g < w.heap.size)
section
variable {w wr w' : World} {r p g pos pos' q2 q3 : Nat} {xs : Bytes} {au cl : Int} {pv ov : Value}
theorem NS.read (h : NS w r p g xs pos q2 q3 au cl pv ov wr) (hR : RdrB w' r p g xs pos') (hm : Mod [p, r] wr w') : NS w r p g xs pos' q2 q3 au cl pv ov w' :=
  ⟨hR, h.nod.mod hm (by have := h.b3; have := h.lt; simp; omega), h.res.mod hm (by have := h.b2; have := h.lt; simp; omega), h.md.trans hm, h.ne, h.b2, h.b3, h.lt⟩
theorem NS.mod (h : NS w r p g xs pos q2 q3 au cl pv ov wr) {S : List Nat} (hm : Mod S wr w') (hS : ∀ b ∈ S, w.heap.size ≤ b ∧ b ≠ q2 ∧ b ≠ q3) : NS w r p g xs pos q2 q3 au cl pv ov w' :=
  ⟨h.rd.mod hm (fun hb => by have := hS _ hb; have := h.lt; omega) (fun hb => by have := hS _ hb; have := h.lt; omega) (fun h0 hb => by have := hS _ hb; have := h.lt.2.2 h0; omega), h.nod.mod hm (fun hb => (hS _ hb).2.2 rfl), h.res.mod hm (fun hb => (hS _ hb).2.1 rfl), h.md.then hm (fun b hb => .inr (hS b hb).1), h.ne, h.b2, h.b3, h.lt⟩
theorem NS.mod0 (h : NS w r p g xs pos q2 q3 au cl pv ov wr) (hm : Mod [] wr w') : NS w r p g xs pos q2 q3 au cl pv ov w' := h.mod hm (by simp)
theorem NS.put (h : NS w r p g xs pos q2 q3 au cl pv ov wr) {au' cl' : Int} {pv' ov' : Value} (hn : NodB w' q3 au' cl' pv' ov') (hm : Mod [q3] wr w') : NS w r p g xs pos q2 q3 au' cl' pv' ov' w' :=
  ⟨h.rd.mod hm (by have := h.b3; have := h.lt; simp; omega) (by have := h.b3; have := h.lt; simp; omega) (fun h0 => by have := h.b3; have := h.lt.2.2 h0; simp; omega), hn, h.res.mod hm (by simpa using h.ne), h.md.then hm (by have := h.b3; simp; omega), h.ne, h.b2, h.b3, h.lt⟩
end
theorem NodB.set1 {w : World} {q : Nat} {au cl cl' : Int} {pv ov : Value} (h : NodB w q au cl pv ov) : NodB (w.setCell ⟨q, 1, none⟩ (.int .i64 cl')) q au cl' pv ov := Blk.set_ h 1 _
theorem NodB.set2 {w : World} {q : Nat} {au cl : Int} {pv pv' ov : Value} (h : NodB w q au cl pv ov) : NodB (w.setCell ⟨q, 2, none⟩ pv') q au cl pv' ov := Blk.set_ h 2 _
theorem NodB.set3 {w : World} {q : Nat} {au cl : Int} {pv ov ov' : Value} (h : NodB w q au cl pv ov) : NodB (w.setCell ⟨q, 3, none⟩ ov') q au cl pv ov' := Blk.set_ h 3 _
end Go.Proofs.Ytlpjeckhejbkkaa
end

section
set_option linter.unusedVariables false
set_option linter.unusedSimpArgs false
set_option maxRecDepth 20000
set_option maxHeartbeats 3200000
namespace Go.Proofs.Ytlpjeckhejbkkaa
open Go.RowKit

def NodeRxP (w : World) (r p : Nat) (res : Rd GNode) (e' : Ending) (w' : World) : Prop :=
  match res with
  | .ok n _ => ∃ pv ov, e' = .returned (nodeV n.author n.clock pv ov) ∧ OwnH w' pv n.parents ∧ OwnO w' ov n.ops ∧ (∀ b ∈ blks pv, w.heap.size ≤ b) ∧ (∀ b ∈ blks ov, w.heap.size ≤ b) ∧ Mod [p, r] w w'
  | .bad why at_ => StopP w r p why at_ e' w'
theorem NodeRxP.stop {w wr w' : World} {r p why at_ : Nat} {res : Rd GNode} {e : Ending} (hres : res = .bad why at_) (hm : Mod [p, r] w wr) (h : StopP wr r p why at_ e w') : NodeRxP w r p res e w' := by
  rw [hres]
  exact h.later hm
theorem rdrNode_any (r p g : Nat) (xs : Bytes) (w : World) (h : RdrB w r p g xs 0) (hz : xs.length ≤ 1048576) :
    Calls Try.prog 28 #[ptr r] w (NodeRxP w r p (rdNodeE xs)) := by
  have HR := Lib.hid h; clear h
  have hlt : p < w.heap.size ∧ r < w.heap.size ∧ (0 < xs.length → g < w.heap.size) := ⟨HR.out.2.1.lt, HR.out.1.lt, fun h0 => by
    obtain ⟨v, _, hr, _⟩ := HR.out.2.1
    obtain ⟨_, _, _, _, _, hl', _⟩ := hr.at_ h0
    exact hl'⟩
  have HLT := Lib.hid hlt; clear hlt
  obtain ⟨res, hres⟩ : ∃ res, rdNodeE xs = res := ⟨_, rfl⟩
  have HRES := Lib.hid hres.symm
  rw [hres]
  unfold rdNodeE at HRES
  clear hres
  go_enter Try.func28, Try.ntmps28
  go_wp2_with fail
  have HRD0 := Lib.hid (HR.out.mod0 ((Mod.refl [] w).alloc (.cells (nodeL 0 0 (.slice none 0 0) (.slice none 0 0)).toArray 26)))
  have HBY := Lib.hid (rdrByte_any r p g xs _ 0 HRD0.out (by omega))
  refine HBY.out.mono ?_
  intro e' w1 hp1
  clear HBY
  cases hb : rdByte xs 0 with
  | bad why at_ =>
    rw [hb] at hp1 HRES
    obtain ⟨q, rfl, hst⟩ := hp1
    exact ⟨rfl, NodeRxP.stop HRES.out ((Mod.refl [p, r] w).alloc _) ⟨q, rfl, hst⟩⟩
  | ok form p1 =>
    rw [hb] at hp1 HRES
    obtain ⟨rfl, hR1, hm1⟩ := hp1
    change Hid (res = rdNode1 xs form p1) at HRES
    unfold rdNode1 at HRES
    by_cases hf : form = 1
    · rw [if_pos hf] at HRES
      have hfi : ((form.toNat : Int) == 1) = true := by rw [hf]; rfl
      go_wp2_with (first | (go_at_call 45; refine (rdrBad_no _ _ _ _).mono ?_; rintro e' w2 ⟨rfl, rfl⟩))
      have hm01 := ((Mod.refl [p, r] w).alloc (.cells (nodeL 0 0 (.slice none 0 0) (.slice none 0 0)).toArray 26)).trans hm1
      have hb0 : NodB w1 w.heap.size 0 0 (.slice none 0 0) (.slice none 0 0) := NodB.mod (Blk.new w _ _) hm1 (by have := HLT.out; simp; omega)
      have HR1 := Lib.hid hR1
      have HM1 := Lib.hid hm01
      have HB1 := Lib.hid hb0
      have HBY := Lib.hid (rdrByte_any r p g xs w1 p1 hR1 (by have := rdByte_cut hb; omega))
      clear hR1 hm1 hm01 hb0 HRD0 hfi hf hb
      refine HBY.out.mono ?_
      intro e' w2 hp2
      clear HBY
      cases hb : rdByte xs p1 with
      | bad why at_ =>
        rw [hb] at hp2 HRES
        obtain ⟨q, rfl, hst⟩ := hp2
        exact ⟨rfl, NodeRxP.stop HRES.out HM1.out ⟨q, rfl, hst⟩⟩
      | ok au p2 =>
        rw [hb] at hp2 HRES
        obtain ⟨rfl, hR2, hm2⟩ := hp2
        change Hid (res = rdNode2 xs au p2) at HRES
        have hp2l := (rdByte_cut hb).2.2
        obtain ⟨q2, hq2⟩ : ∃ q2, w.heap.size = q2 := ⟨_, rfl⟩
        have hB2 : NodB w2 q2 0 0 (.slice none 0 0) (.slice none 0 0) := by rw [← hq2]; exact HB1.out.mod hm2 (by have := HLT.out; simp; omega)
        have HB2 := Lib.hid hB2
        have HR2 := Lib.hid hR2
        have HM2 := Lib.hid (HM1.out.trans hm2)
        have HQ2 := Lib.hid hq2
        rw [hq2]
        have hwa : IntKind.i64.wrap (au.toNat : Int) = (au.toNat : Int) := IntWalk.i64_in _ (by have := au.toNat_lt; omega)
        clear hR2 hm2 hb hB2 hq2 HB1 HM1 HR1
        unfold bv
        obtain ⟨ai, hai⟩ : ∃ ai : Nat, au.toNat = ai := ⟨_, rfl⟩
        rw [hai] at hwa ⊢
        unfold rdNode2 at HRES
        rw [hai] at HRES
        clear hai
        have hzz : Value.agg #[.int .i64 (ai : Int), .int .i64 0, .slice none 0 0, .slice none 0 0] = nodeV ai 0 (.slice none 0 0) (.slice none 0 0) := rfl
        go_upto_region 3 with (first | ((with_reducible refine wpList_store_node (au := (ai : Int)) (cl := 0) (pv := .slice none 0 0) (ov := .slice none 0 0) _ _ rfl ?hgd ?hx ?hy (Blk.new _ _ _) ?hold ?hp ?hv ?_); (case hgd => exact rfl); (case hx => exact rfl); (case hy => exact rfl); (case hold => exact rfl); (case hp => exact rfl); (case hv => exact rfl); intro w3 hb3 hm3; have HNS : Hid (NS w r p g xs p2 q2 w2.heap.size ai 0 (.slice none 0 0) (.slice none 0 0) w3) := Lib.hid (have hmw := HM2.out; have hmx : Mod [] w2 w3 := ((Mod.refl [] w2).alloc _).then hm3 (by simp); ⟨HR2.out.mod0 hmx, hb3, HB2.out.mod hmx (by simp), hmw.trans (hmx.mono (by simp)), by have := HB2.out.lt; omega, by rw [HQ2.out]; omega, hmw.size, HLT.out⟩); clear hb3 hm3))
        clear hzz hwa HB2 HR2
        have HW2 : Hid (Mod [p, r] w w3) := Lib.hid HNS.out.md
        obtain ⟨q3, hq3⟩ : ∃ q3, w2.heap.size = q3 := ⟨_, rfl⟩
        rw [hq3] at HNS
        rw [hq3]
        clear hq3 HM2 HQ2
        by_cases ha : 1 ≤ ai ∧ ai ≤ 8
        · rw [if_pos ha] at HRES
          obtain ⟨d0, d1, d2, d3, _⟩ := HNS.out.nod.open_
          have hx1 : ¬ ((ai : Int) < 1) := by omega
          have hx2 : ¬ ((8 : Int) < (ai : Int)) := by omega
          go_wp2_with (first | (go_at_call 45; refine (rdrBad_no _ _ _ _).mono ?_; rintro e' w4 ⟨rfl, rfl⟩))
          have HNU := Lib.hid (rdrNumber_any 4096 r p g xs w3 p2 HNS.out.rd hp2l (by omega))
          clear hx1 hx2 d0 d1 d2 d3
          refine HNU.out.mono ?_
          intro e' w4 hp4
          clear HNU
          cases hb : rdNum xs p2 4096 with
          | bad why at_ =>
            rw [hb] at hp4 HRES
            obtain ⟨q, rfl, hst⟩ := hp4
            exact ⟨rfl, NodeRxP.stop HRES.out HNS.out.md ⟨q, rfl, hst⟩⟩
          | ok cl p3 =>
            rw [hb] at hp4 HRES
            obtain ⟨rfl, hR4, hm4⟩ := hp4
            change Hid (res = rdNode3 xs ai cl p3) at HRES
            obtain ⟨hcl4, _, hp3l, _⟩ := rdNum_ok hb hp2l
            have HN4 := Lib.hid (HNS.out.read hR4 hm4)
            clear hR4 hm4 hb HNS
            obtain ⟨d0, d1, d2, d3, _⟩ := HN4.out.nod.open_
            have f1 := HN4.out.nod.frozen 1
            unfold rdNode3 at HRES
            go_upto_region 5 with fail
            have hm5 : Mod [q3] w4 (w4.setCell ⟨q3, 1, none⟩ (.int .i64 (cl : Int))) := (Mod.refl [q3] w4).setCell _ (by simp) _
            have HN5 := Lib.hid (HN4.out.put HN4.out.nod.set1 hm5)
            obtain ⟨w5, hw5⟩ : ∃ w5, w4.setCell ⟨q3, 1, none⟩ (.int .i64 (cl : Int)) = w5 := ⟨_, rfl⟩
            rw [hw5] at HN5
            rw [hw5]
            clear hw5 hm5 HN4 d0 d1 d2 d3 f1
            obtain ⟨d0, d1, d2, d3, _⟩ := HN5.out.nod.open_
            by_cases hc0 : cl = 0
            · rw [if_pos hc0] at HRES
              have hci : ((cl : Int) == 0) = true := by rw [hc0]; rfl
              have HY := Lib.hid (rdrBad_yes r p g xs p3 51 2 w5 HN5.out.rd)
              clear hc0
              go_wp2_with fail
              refine HY.out.mono ?_
              rintro e' w6 ⟨q, rfl, hst⟩
              exact ⟨rfl, NodeRxP.stop HRES.out HN5.out.md ⟨q, rfl, hst⟩⟩
            · rw [if_neg hc0] at HRES
              have hci : ((cl : Int) == 0) = false := by simp; omega
              go_wp2_with (first | (go_at_call 45; refine (rdrBad_no _ _ _ _).mono ?_; rintro e' w6 ⟨rfl, rfl⟩))
              have HNU := Lib.hid (rdrNumber_any 64 r p g xs w5 p3 HN5.out.rd hp3l (by omega))
              clear hci d0 d1 d2 d3
              refine HNU.out.mono ?_
              intro e' w6 hp6
              clear HNU
              cases hb : rdNum xs p3 64 with
              | bad why at_ =>
                rw [hb] at hp6 HRES
                obtain ⟨q, rfl, hst⟩ := hp6
                exact ⟨rfl, NodeRxP.stop HRES.out HN5.out.md ⟨q, rfl, hst⟩⟩
              | ok many p4 =>
                rw [hb] at hp6 HRES
                obtain ⟨rfl, hR6, hm6⟩ := hp6
                obtain ⟨hmany, _, hp4l, _⟩ := rdNum_ok hb hp3l
                have HN6 := Lib.hid (HN5.out.read hR6 hm6)
                change Hid (res = if decide (cl = 1) = decide (many = 0) then (rdHashes xs many p4 []).bind (rdTail xs ai cl) else .bad 51 2) at HRES
                have HCB0 := Lib.hid (clockBad_iff cl many)
                clear hR6 hm6 hb HN5
                obtain ⟨d0, d1, d2, d3, _⟩ := HN6.out.nod.open_
                go_wp2_with fail
                have HB6 : Hid (clockBad (cl : Int) many = !(((cl : Int) == 1) == ((many : Int) == 0))) := Lib.hid rfl
                rw [← HB6.out]
                clear HB6 d0 d1 d2 d3
                by_cases hd : decide (cl = 1) = decide (many = 0)
                · rw [if_pos hd] at HRES
                  have hcb : clockBad (cl : Int) many = false := by
                    cases hx : clockBad (cl : Int) many with
                    | false => rfl
                    | true => exact absurd (by rw [show decide ((cl : Int) = 1) = decide (cl = 1) by congr 1; simp; omega]; exact hd) (HCB0.out.1 hx)
                  rw [hcb]
                  refine (rdrBad_no _ _ _ _).mono ?_
                  rintro e' w7 ⟨rfl, rfl⟩
                  clear hcb hd HCB0
                  go_wp2_with fail
                  obtain ⟨K, hK⟩ : ∃ K, rdTail xs (ai : Int) (cl : Int) = K := ⟨_, rfl⟩
                  have HKT := Lib.hid hK
                  rw [hK] at HRES
                  clear hK
                  go_loopw [49] (fun s49 wr => ∃ (i : Nat) (A : Option Addr) (n c : Nat) (done : List GHash) (pos : Nat), s49 = .int .i64 (i : Int) ∧ i ≤ many ∧ pos ≤ xs.length ∧ Hid (NS w r p g xs pos q2 q3 ai cl (.slice A n c) (.slice none 0 0) wr) ∧ Hid (OwnH wr (.slice A n c) done) ∧ Hid (done.length = i) ∧ Hid (∀ b ∈ blks (.slice A n c), w.heap.size ≤ b) ∧ Hid (res = (rdHashes xs (many - i) pos done).bind K)) (fun s _ => many - (intOf s).toNat)
                  case atStart => exact ⟨0, none, 0, 0, [], p4, rfl, by omega, hp4l, HN6, Lib.hid (OwnH.nil _), Lib.hid rfl, Lib.hid (by simp [blks, Value.ownBlock]), HRES⟩
                  case round =>
                    obtain ⟨i, A, n, c, done, pos, rfl, hi, hpos, HN, HOW, HDL, HBK, HRS⟩ := hrel
                    clear HN6 HRES hp4l
                    have HAT := Lib.hid (at_any p g xs wr pos .nilIface HN.out.rd.2.1)
                    obtain ⟨c0, hrl, hpl⟩ := HN.out.rd.cells
                    by_cases him : i < many
                    · obtain ⟨k, hk⟩ : ∃ k, many - i = k + 1 := ⟨many - i - 1, by omega⟩
                      have hk2 : many - (i + 1) = k := by omega
                      have HK2 := Lib.hid hk2
                      rw [hk] at HRS
                      unfold rdHashes at HRS
                      have hii : (i : Int) < (many : Int) := by omega
                      go_wp2_with (first | (go_at_call 48; refine HAT.out.mono ?_; rintro e' w7 ⟨rfl, rfl⟩))
                      have HHA := Lib.hid (rdrHash_any r p g xs wr pos HN.out.rd hpos)
                      clear c0 hrl hpl HAT hk hk2
                      refine HHA.out.mono ?_
                      intro e' w7 hp7
                      clear HHA
                      cases hb : rdHash xs pos with
                      | bad why at_ =>
                        rw [hb] at hp7 HRS
                        obtain ⟨q, rfl, hst⟩ := hp7
                        exact ⟨rfl, NodeRxP.stop HRS.out HN.out.md ⟨q, rfl, hst⟩⟩
                      | ok h p5 =>
                        rw [hb] at hp7 HRS
                        obtain ⟨rfl, hR7, hm7⟩ := hp7
                        have hp5l : p5 ≤ xs.length := by
                          have := bl_hash pos (xs := xs)
                          exact ((this hpos).2 h p5 hb).2
                        have HN7 := Lib.hid (HN.out.read hR7 hm7)
                        have HOW7 := Lib.hid (HOW.out.mod hm7 (fun b hb => by have := HBK.out b hb; have := HLT.out; simp; omega))
                        clear hR7 hm7 hb HN HOW
                        change Hid (res = (if risesTo done h then rdHashes xs k p5 (done ++ [h]) else .bad 52 pos : Rd (List GHash)).bind K) at HRS
                        go_upto_region 13 with (first | ((with_reducible refine wpList_store_hashN (o := h) _ _ rfl ?hgd ?hx ?hy (Blk.new _ _ _) ?hold ?_); (case hgd => exact rfl); (case hx => exact rfl); (case hy => exact rfl); (case hold => exact rfl); intro w8 hb8 hm8; have hmx : Mod [] w7 w8 := ((Mod.refl [] w7).alloc _).then hm8 (by simp); have HB8 := Lib.hid hb8; have HN8 := Lib.hid (HN7.out.mod0 hmx); have HOW8 := Lib.hid (HOW7.out.mod hmx (by simp)); clear hb8 hm8 hmx))
                        obtain ⟨q7, hq7⟩ : ∃ q7, w7.heap.size = q7 := ⟨_, rfl⟩
                        rw [hq7] at HB8
                        rw [hq7]
                        clear hq7 HN7 HOW7
                        by_cases hi0 : i = 0
                        · have hgi : ¬ ((0 : Int) < (i : Int)) := by omega
                          have hrise : risesTo done h = true := by
                            have e : done = [] := List.eq_nil_of_length_eq_zero (by rw [HDL.out]; exact hi0)
                            rw [e]; rfl
                          rw [if_pos hrise] at HRS
                          clear hrise
                          refine wp_regionE (Mod []) (by kernel_rfl) ?_
                          simp only [List.size_toArray, List.length_cons, List.length_nil, Nat.zero_add, Nat.reduceAdd]
                          refine wpAnyE_takeL (preMod _) 0 (v := ?_) rfl (by kernel_rfl) (by kernel_rfl) (by kernel_rfl) (fun _ _ _ h => h) (Or.inl ⟨by rfl, ?_⟩) ?_
                          rotate_left; (intro W hW; (try dsimp only at hW); go_simp; try with_reducible rfl)
                          (try simp only [Act.put, List.setIfInBounds_toArray, List.set_cons_zero, List.set_cons_succ])
                          refine wpAnyE_takeL (preMod _) 1 (v := ?_) rfl (by kernel_rfl) (by kernel_rfl) (by kernel_rfl) (fun _ _ _ h => h) (Or.inl ⟨by rfl, ?_⟩) ?_
                          rotate_left; (intro W hW; (try dsimp only at hW); go_simp; try with_reducible rfl)
                          (try simp only [Act.put, List.setIfInBounds_toArray, List.set_cons_zero, List.set_cons_succ])
                          refine wpAnyE_takeL (preMod _) 2 (v := ?_) rfl (by kernel_rfl) (by kernel_rfl) (by kernel_rfl) (fun _ _ _ h => h) (Or.inl ⟨by rfl, ?_⟩) ?_
                          rotate_left; (intro W hW; (try dsimp only at hW); go_simp; try with_reducible rfl)
                          (try simp only [Act.put, List.setIfInBounds_toArray, List.set_cons_zero, List.set_cons_succ])
                          refine wpAnyE_takeL (preMod _) 3 (v := ?_) rfl (by kernel_rfl) (by kernel_rfl) (by kernel_rfl) (fun _ _ _ h => h) (Or.inl ⟨by rfl, ?_⟩) ?_
                          rotate_left; (intro W hW; (try dsimp only at hW); go_simp; try with_reducible rfl)
                          (try simp only [Act.put, List.setIfInBounds_toArray, List.set_cons_zero, List.set_cons_succ])
                          refine wpAnyE_takeL (preMod _) 4 (v := undef) rfl (by kernel_rfl) (by kernel_rfl) (by kernel_rfl) (fun _ _ _ h => h) (Or.inr ⟨by rfl, rfl⟩) ?_
                          (try simp only [Act.put, List.setIfInBounds_toArray, List.set_cons_zero, List.set_cons_succ])
                          refine wpAnyE_takeL (preMod _) 5 (v := undef) rfl (by kernel_rfl) (by kernel_rfl) (by kernel_rfl) (fun _ _ _ h => h) (Or.inr ⟨by rfl, rfl⟩) ?_
                          (try simp only [Act.put, List.setIfInBounds_toArray, List.set_cons_zero, List.set_cons_succ])
                          refine wpAnyE_takeL (preMod _) 6 (v := undef) rfl (by kernel_rfl) (by kernel_rfl) (by kernel_rfl) (fun _ _ _ h => h) (Or.inr ⟨by rfl, rfl⟩) ?_
                          (try simp only [Act.put, List.setIfInBounds_toArray, List.set_cons_zero, List.set_cons_succ])
                          refine wpAnyE_takeL (preMod _) 7 (v := undef) rfl (by kernel_rfl) (by kernel_rfl) (by kernel_rfl) (fun _ _ _ h => h) (Or.inr ⟨by rfl, rfl⟩) ?_
                          (try simp only [Act.put, List.setIfInBounds_toArray, List.set_cons_zero, List.set_cons_succ])
                          refine wpAnyE_takeL (preMod _) 8 (v := undef) rfl (by kernel_rfl) (by kernel_rfl) (by kernel_rfl) (fun _ _ _ h => h) (Or.inr ⟨by rfl, rfl⟩) ?_
                          (try simp only [Act.put, List.setIfInBounds_toArray, List.set_cons_zero, List.set_cons_succ])
                          refine wpAnyE_takeL (preMod _) 9 (v := undef) rfl (by kernel_rfl) (by kernel_rfl) (by kernel_rfl) (fun _ _ _ h => h) (Or.inr ⟨by rfl, rfl⟩) ?_
                          (try simp only [Act.put, List.setIfInBounds_toArray, List.set_cons_zero, List.set_cons_succ])
                          refine wpAnyE_takeL (preMod _) 10 (v := undef) rfl (by kernel_rfl) (by kernel_rfl) (by kernel_rfl) (fun _ _ _ h => h) (Or.inr ⟨by rfl, rfl⟩) ?_
                          (try simp only [Act.put, List.setIfInBounds_toArray, List.set_cons_zero, List.set_cons_succ])
                          refine wpAnyE_takeL (preMod _) 11 (v := undef) rfl (by kernel_rfl) (by kernel_rfl) (by kernel_rfl) (fun _ _ _ h => h) (Or.inr ⟨by rfl, rfl⟩) ?_
                          (try simp only [Act.put, List.setIfInBounds_toArray, List.set_cons_zero, List.set_cons_succ])
                          refine wpAnyE_takeL (preMod _) 12 (v := undef) rfl (by kernel_rfl) (by kernel_rfl) (by kernel_rfl) (fun _ _ _ h => h) (Or.inr ⟨by rfl, rfl⟩) ?_
                          (try simp only [Act.put, List.setIfInBounds_toArray, List.set_cons_zero, List.set_cons_succ])
                          refine wpAnyE_takeL (preMod _) 13 (v := ?_) rfl (by kernel_rfl) (by kernel_rfl) (by kernel_rfl) (fun _ _ _ h => h) (Or.inl ⟨by rfl, ?_⟩) ?_
                          rotate_left; (intro W hW; (try dsimp only at hW); go_simp; try with_reducible rfl)
                          (try simp only [Act.put, List.setIfInBounds_toArray, List.set_cons_zero, List.set_cons_succ])
                          refine wpAnyE_takeL (preMod _) 14 (v := ?_) rfl (by kernel_rfl) (by kernel_rfl) (by kernel_rfl) (fun _ _ _ h => h) (Or.inl ⟨by rfl, ?_⟩) ?_
                          rotate_left; (intro W hW; (try dsimp only at hW); go_simp; try with_reducible rfl)
                          (try simp only [Act.put, List.setIfInBounds_toArray, List.set_cons_zero, List.set_cons_succ])
                          refine wpAnyE_ready (rs := [15]) (by kernel_rfl) (by simp) ?_
                          refine AllReadyE.consL rfl (fun K hK => ?_) AllReadyE.nil
                          rw [if_pos (by rfl)]
                          go_simp
                          go_at_call 45
                          (with_reducible refine (rdrBad_no _ _ _ _).mono ?_)
                          rintro e' w9 ⟨rfl, rfl⟩
                          go_wp2_with fail
                          refine hK.out _ _ (by first | exact hmE | exact Mod.refl _ _ | exact (Mod.refl _ _).alloc _) ?_
                          clear hK
                          (try simp only [Act.put, List.setIfInBounds_toArray, List.set_cons_zero, List.set_cons_succ])
                          refine wpAnyE_done (by kernel_rfl) ?_ _
                          have hdm : Mod [] w8 w8.drew := (Mod.refl [] w8).drew
                          have HN9 := Lib.hid (HN8.out.mod0 hdm)
                          have HOW9 := Lib.hid (HOW8.out.mod hdm (by simp))
                          have HB9 := Lib.hid (HB8.out.mod hdm (by simp))
                          obtain ⟨w9, hw9⟩ : ∃ w9, w8.drew = w9 := ⟨_, rfl⟩
                          rw [hw9] at HN9 HOW9 HB9
                          rw [hw9]
                          clear hdm hw9 HN8 HOW8 HB8
                          obtain ⟨d0, d1, d2, d3, _⟩ := HN9.out.nod.open_
                          have HH9 : Hid (HashAt w9 q7 0 h) := Lib.hid (CellsAt.of_blk HB9.out)
                          clear HB9
                          go_wp2_with (first | ((with_reducible refine wpList_load_hash _ rfl ?hgd HH9.out ?hx ?_); (case hgd => exact rfl); (case hx => exact rfl)) | ((with_reducible refine wpList_buildSlice_hash (o := h) _ rfl ?hgd ?hx ?_); (case hgd => exact rfl); (case hx => exact rfl); intro g10 w10 hs10 hm10 hg10 hl10; have HS10 := Lib.hid hs10; have HN10 := Lib.hid (HN9.out.mod0 hm10); have HOW10 := Lib.hid (HOW9.out.mod hm10 (by simp)); clear hs10 hm10 hg10 hl10) | (at_builtin; refine wpList_append_hashes rfl _ _ rfl HOW10.out rfl HS10.out rfl ?_ ?hz; intro A11 n11 c11 w11 hown11 hn11 hm11 HF11; have HN11 := Lib.hid (HN10.out.mod hm11 (fun b hb => ⟨HBK.out b hb, fun h1 => own_ne HOW10.out HN10.out.res (by decide) (h1 ▸ hb), fun h1 => own_ne HOW10.out HN10.out.nod (by decide) (h1 ▸ hb)⟩)); obtain ⟨e0, e1, e2, e3, _⟩ := HN11.out.nod.open_; have f2 := HN11.out.nod.frozen 2; have HN12 := Lib.hid (HN11.out.put (NodB.set2 (pv' := .slice A11 n11 c11) HN11.out.nod) ((Mod.refl [q3] w11).setCell ⟨q3, 2, none⟩ (by simp) _)); have HOW12 : Hid (OwnH (w11.setCell ⟨q3, 2, none⟩ (.slice A11 n11 c11)) (.slice A11 n11 c11) (done ++ [h])) := Lib.hid (OwnH.mod hown11 ((Mod.refl [q3] w11).setCell ⟨q3, 2, none⟩ (by simp) _) (fun b hb h1 => own_ne hown11 HN11.out.nod (by decide) (by simp at h1; rw [← h1]; exact hb))); have HBK12 : Hid (∀ b ∈ blks (.slice A11 n11 c11), w.heap.size ≤ b) := Lib.hid (fun b hb => (HF11.out b hb).elim (HBK.out b) (fun h1 => by have := HN10.out.md.size; omega)); clear hown11 hm11 hn11 HF11))
                          case hz => have := HDL.out; simp; omega
                          go_roundw
                          case rel => exact ⟨i + 1, A11, n11, c11, done ++ [h], p5, by go_num, by omega, hp5l, HN12, HOW12, Lib.hid (by rw [List.length_append, HDL.out]; rfl), HBK12, by rw [HK2.out]; exact HRS⟩
                          case measure => simp [intOf]; omega
                        · obtain ⟨m, hm⟩ : ∃ m, i = m + 1 := ⟨i - 1, by omega⟩
                          have hgi : (0 : Int) < (i : Int) := by omega
                          have hgn : 0 < i := by omega
                          have hq : IntKind.i64.wrap ((i : Int) - 1) = (m : Int) := by rw [IntWalk.i64_in _ (by omega)]; omega
                          have hdl : done.length = m + 1 := by rw [HDL.out]; exact hm
                          obtain ⟨gh, hs8, hgh⟩ := HOW8.out.hs
                          obtain ⟨off, cap', hv', _, _, _, hit⟩ := HS.item hs8 (by omega)
                          injection hv' with hA hnn hcc
                          subst hA
                          have hdm : m < done.length := by omega
                          obtain ⟨hd, hhd⟩ : ∃ hd, done[m] = hd := ⟨_, rfl⟩
                          have HIT := Lib.hid (hhd ▸ hit m hdm)
                          have hmn : (m : Int) < (n : Int) := by omega
                          have HGH : Hid (n = done.length) := Lib.hid hnn
                          have hlast : done.getLast? = some hd := by
                            rw [List.getLast?_eq_getElem?, hdl]
                            simp only [Nat.add_sub_cancel]
                            rw [List.getElem?_eq_getElem hdm, hhd]
                          have hrt := risesTo_eq done hd h hlast
                          have HS2 : Hid (∀ W, Calls Try.prog 50 #[.agg hd.cells.toArray, .agg h.cells.toArray] W fun e w' => e = .returned (.int .i64 (cmpB hd.l h.l)) ∧ Mod [] W w') := Lib.hid (fun W => shaCompare_any _ _ W)
                          obtain ⟨cc, hcc2⟩ : ∃ cc, cmpB hd.l h.l = cc := ⟨_, rfl⟩
                          rw [hcc2] at HS2 hrt
                          have HM := Lib.hid hm
                          have hw0 : Mod [] w8 w8.drew := (Mod.refl _ w8).drew
                          have hlA : ∀ W, Mod [] w8 W → CellsAt W gh (off + m * 32) hd.cells := fun W hW => CellsAt.mod HIT.out hW (by simp)
                          have hlB : ∀ W, Mod [] w8 W → CellsAt W q7 0 h.cells := fun W hW => CellsAt.of_blk (HB8.out.mod hW (by simp))
                          have hcq : ∀ W, Mod [] w8 W → W.cell? ⟨q3, 2, none⟩ = some (.slice (some ⟨gh, off, none⟩) n c) := fun W hW => (HN8.out.nod.mod hW (by simp)).open_.2.2.1
                          have HHA := Lib.hid hlA
                          have HHB := Lib.hid hlB
                          have HCQ := Lib.hid hcq
                          have HRD : Hid (∀ W, Mod [] w8 W → RdrB W r p g xs p5) := Lib.hid (fun W hW => HN8.out.rd.mod0 hW)
                          clear hit hs8 hgh hm hdl hdm hhd hnn hcc hlast hcc2 hlA hlB hcq
                          by_cases hneg : cc < 0
                          · have hge : ¬ (0 ≤ cc) := by omega
                            have hdc : decide ((0 : Int) ≤ cc) = false := decide_eq_false hge
                            rw [hrt, decide_eq_true hneg, if_pos rfl] at HRS
                            clear hrt
                            refine wp_regionE (Mod []) (by kernel_rfl) ?_
                            simp only [List.size_toArray, List.length_cons, List.length_nil, Nat.zero_add, Nat.reduceAdd]
                            refine wpAnyE_takeL (preMod _) 0 (v := ?_) rfl (by kernel_rfl) (by kernel_rfl) (by kernel_rfl) (fun _ _ _ h => h) (Or.inl ⟨by rfl, ?_⟩) ?_
                            rotate_left; (intro W hW; (try dsimp only at hW); go_simp; try with_reducible rfl)
                            (try simp only [Act.put, List.setIfInBounds_toArray, List.set_cons_zero, List.set_cons_succ])
                            refine wpAnyE_takeL (preMod _) 1 (v := ?_) rfl (by kernel_rfl) (by kernel_rfl) (by kernel_rfl) (fun _ _ _ h => h) (Or.inl ⟨by rfl, ?_⟩) ?_
                            rotate_left; (intro W hW; (try dsimp only at hW); go_simp; try with_reducible rfl)
                            (try simp only [Act.put, List.setIfInBounds_toArray, List.set_cons_zero, List.set_cons_succ])
                            refine wpAnyE_takeL (preMod _) 2 (v := ?_) rfl (by kernel_rfl) (by kernel_rfl) (by kernel_rfl) (fun _ _ _ h => h) (Or.inl ⟨by rfl, ?_⟩) ?_
                            rotate_left; (intro W hW; (try dsimp only at hW); go_simp; try with_reducible rfl)
                            (try simp only [Act.put, List.setIfInBounds_toArray, List.set_cons_zero, List.set_cons_succ])
                            refine wpAnyE_takeL (preMod _) 3 (v := ?_) rfl (by kernel_rfl) (by kernel_rfl) (by kernel_rfl) (fun _ _ _ h => h) (Or.inl ⟨by rfl, ?_⟩) ?_
                            rotate_left; (intro W hW; (try dsimp only at hW); go_simp; try with_reducible rfl)
                            (try simp only [Act.put, List.setIfInBounds_toArray, List.set_cons_zero, List.set_cons_succ])
                            refine wpAnyE_takeL (preMod _) 4 (v := ?_) rfl (by kernel_rfl) (by kernel_rfl) (by kernel_rfl) (fun _ _ _ h => h) (Or.inl ⟨by rfl, ?_⟩) ?_
                            rotate_left; (intro W hW; (try dsimp only at hW); go_simp; try with_reducible rfl)
                            (try simp only [Act.put, List.setIfInBounds_toArray, List.set_cons_zero, List.set_cons_succ])
                            refine wpAnyE_takeL (preMod _) 5 (v := ?_) rfl (by kernel_rfl) (by kernel_rfl) (by kernel_rfl) (fun _ _ _ h => h) (Or.inl ⟨by rfl, ?_⟩) ?_
                            rotate_left; (intro W hW; (try dsimp only at hW); (have hcw := HCQ.out W (hw0.trans hW); go_simp); try with_reducible rfl)
                            (try simp only [Act.put, List.setIfInBounds_toArray, List.set_cons_zero, List.set_cons_succ])
                            refine wpAnyE_takeL (preMod _) 6 (v := ?_) rfl (by kernel_rfl) (by kernel_rfl) (by kernel_rfl) (fun _ _ _ h => h) (Or.inl ⟨by rfl, ?_⟩) ?_
                            rotate_left; (intro W hW; (try dsimp only at hW); go_simp; try with_reducible rfl)
                            (try simp only [Act.put, List.setIfInBounds_toArray, List.set_cons_zero, List.set_cons_succ])
                            refine wpAnyE_takeL (preMod _) 7 (v := ?_) rfl (by kernel_rfl) (by kernel_rfl) (by kernel_rfl) (fun _ _ _ h => h) (Or.inl ⟨by rfl, ?_⟩) ?_
                            rotate_left; (intro W hW; (try dsimp only at hW); go_simp; try with_reducible rfl)
                            (try simp only [Act.put, List.setIfInBounds_toArray, List.set_cons_zero, List.set_cons_succ])
                            refine wpAnyE_takeL (preMod _) 8 (v := ?_) rfl (by kernel_rfl) (by kernel_rfl) (by kernel_rfl) (fun _ _ _ h => h) (Or.inl ⟨by rfl, ?_⟩) ?_
                            rotate_left; (intro W hW; (try dsimp only at hW); (go_simp; try rw [if_pos (by omega)]); try with_reducible rfl)
                            (try simp only [Act.put, List.setIfInBounds_toArray, List.set_cons_zero, List.set_cons_succ])
                            refine wpAnyE_takeL (preMod _) 9 (v := ?_) rfl (by kernel_rfl) (by kernel_rfl) (by kernel_rfl) (fun _ _ _ h => h) (Or.inl ⟨by rfl, ?_⟩) ?_
                            rotate_left; (intro W hW; (try dsimp only at hW); refine (run_load_cells rtHash (.tmp 67) (by rfl) (by rfl) (GHash.cells_length _) (HHA.out W (hw0.trans hW))).trans ?_; try with_reducible rfl)
                            (try simp only [Act.put, List.setIfInBounds_toArray, List.set_cons_zero, List.set_cons_succ])
                            refine wpAnyE_takeL (preMod _) 10 (v := ?_) rfl (by kernel_rfl) (by kernel_rfl) (by kernel_rfl) (fun _ _ _ h => h) (Or.inl ⟨by rfl, ?_⟩) ?_
                            rotate_left; (intro W hW; (try dsimp only at hW); refine (run_load_cells rtHash (.tmp 7) (by rfl) (by rfl) (GHash.cells_length _) (HHB.out W (hw0.trans hW))).trans ?_; try with_reducible rfl)
                            (try simp only [Act.put, List.setIfInBounds_toArray, List.set_cons_zero, List.set_cons_succ])
                            refine wpAnyE_takeL (preMod _) 14 (v := ?_) rfl (by kernel_rfl) (by kernel_rfl) (by kernel_rfl) (fun _ _ _ h => h) (Or.inl ⟨by rfl, ?_⟩) ?_
                            rotate_left; (intro W hW; (try dsimp only at hW); go_simp; try with_reducible rfl)
                            (try simp only [Act.put, List.setIfInBounds_toArray, List.set_cons_zero, List.set_cons_succ])
                            refine wpAnyE_ready (rs := [11]) (by kernel_rfl) (by simp) ?_
                            refine AllReadyE.consL rfl (fun K hK => ?_) AllReadyE.nil
                            rw [if_pos (by rfl)]
                            go_simp
                            go_at_call 50
                            refine (HS2.out _).mono ?_
                            rintro e' w9 ⟨rfl, hm9⟩
                            have hmE := hm9
                            have HM9 : Hid (Mod [] w8 w9) := Lib.hid (hw0.trans hm9)
                            go_wp2_with fail
                            refine hK.out _ _ (by first | exact hmE | exact Mod.refl _ _ | exact (Mod.refl _ _).alloc _) ?_
                            clear hK
                            (try simp only [Act.put, List.setIfInBounds_toArray, List.set_cons_zero, List.set_cons_succ])
                            refine wpAnyE_takeL (preMod _) 12 (v := ?_) rfl (by kernel_rfl) (by kernel_rfl) (by kernel_rfl) (fun _ _ _ h => h) (Or.inl ⟨by rfl, ?_⟩) ?_
                            rotate_left; (intro W hW; (try dsimp only at hW); go_simp; try with_reducible rfl)
                            (try simp only [Act.put, List.setIfInBounds_toArray, List.set_cons_zero, List.set_cons_succ])
                            refine wpAnyE_takeL (preMod _) 13 (v := ?_) rfl (by kernel_rfl) (by kernel_rfl) (by kernel_rfl) (fun _ _ _ h => h) (Or.inl ⟨by rfl, ?_⟩) ?_
                            rotate_left; (intro W hW; (try dsimp only at hW); go_simp; try with_reducible rfl)
                            (try simp only [Act.put, List.setIfInBounds_toArray, List.set_cons_zero, List.set_cons_succ])
                            refine wpAnyE_ready (rs := [15]) (by kernel_rfl) (by simp) ?_
                            refine AllReadyE.consL rfl (fun K hK => ?_) AllReadyE.nil
                            rw [if_pos (by rfl)]
                            go_simp
                            go_at_call 45
                            (with_reducible refine (rdrBad_no _ _ _ _).mono ?_)
                            rintro e' w10 ⟨rfl, rfl⟩
                            go_wp2_with fail
                            refine hK.out _ _ (by first | exact hmE | exact Mod.refl _ _ | exact (Mod.refl _ _).alloc _) ?_
                            clear hK
                            (try simp only [Act.put, List.setIfInBounds_toArray, List.set_cons_zero, List.set_cons_succ])
                            refine wpAnyE_done (by kernel_rfl) ?_ _
                            have HN9 := Lib.hid (HN8.out.mod0 HM9.out)
                            have HOW9 := Lib.hid (HOW8.out.mod HM9.out (by simp))
                            have HB9 := Lib.hid (HB8.out.mod HM9.out (by simp))
                            clear HN8 HOW8 HB8 HM9 HHA HHB HCQ HRD HIT hw0 hq hmn
                            obtain ⟨d0, d1, d2, d3, _⟩ := HN9.out.nod.open_
                            have HH9 : Hid (HashAt w9 q7 0 h) := Lib.hid (CellsAt.of_blk HB9.out)
                            clear HB9
                            go_wp2_with (first | ((with_reducible refine wpList_load_hash _ rfl ?hgd HH9.out ?hx ?_); (case hgd => exact rfl); (case hx => exact rfl)) | ((with_reducible refine wpList_buildSlice_hash (o := h) _ rfl ?hgd ?hx ?_); (case hgd => exact rfl); (case hx => exact rfl); intro g10 w10 hs10 hm10 hg10 hl10; have HS10 := Lib.hid hs10; have HN10 := Lib.hid (HN9.out.mod0 hm10); have HOW10 := Lib.hid (HOW9.out.mod hm10 (by simp)); clear hs10 hm10 hg10 hl10) | (at_builtin; refine wpList_append_hashes rfl _ _ rfl HOW10.out rfl HS10.out rfl ?_ ?hz; intro A11 n11 c11 w11 hown11 hn11 hm11 HF11; have HN11 := Lib.hid (HN10.out.mod hm11 (fun b hb => ⟨HBK.out b hb, fun h1 => own_ne HOW10.out HN10.out.res (by decide) (h1 ▸ hb), fun h1 => own_ne HOW10.out HN10.out.nod (by decide) (h1 ▸ hb)⟩)); obtain ⟨e0, e1, e2, e3, _⟩ := HN11.out.nod.open_; have f2 := HN11.out.nod.frozen 2; have HN12 := Lib.hid (HN11.out.put (NodB.set2 (pv' := .slice A11 n11 c11) HN11.out.nod) ((Mod.refl [q3] w11).setCell ⟨q3, 2, none⟩ (by simp) _)); have HOW12 : Hid (OwnH (w11.setCell ⟨q3, 2, none⟩ (.slice A11 n11 c11)) (.slice A11 n11 c11) (done ++ [h])) := Lib.hid (OwnH.mod hown11 ((Mod.refl [q3] w11).setCell ⟨q3, 2, none⟩ (by simp) _) (fun b hb h1 => own_ne hown11 HN11.out.nod (by decide) (by simp at h1; rw [← h1]; exact hb))); have HBK12 : Hid (∀ b ∈ blks (.slice A11 n11 c11), w.heap.size ≤ b) := Lib.hid (fun b hb => (HF11.out b hb).elim (HBK.out b) (fun h1 => by have := HN10.out.md.size; omega)); clear hown11 hm11 hn11 HF11))
                            case hz => have := HDL.out; simp; omega
                            go_roundw
                            case rel => exact ⟨i + 1, A11, n11, c11, done ++ [h], p5, by go_num, by omega, hp5l, HN12, HOW12, Lib.hid (by rw [List.length_append, HDL.out]; rfl), HBK12, by rw [HK2.out]; exact HRS⟩
                            case measure => simp [intOf]; omega
                          · have hge : 0 ≤ cc := by omega
                            have hdc : decide ((0 : Int) ≤ cc) = true := decide_eq_true hge
                            rw [hrt, decide_eq_false hneg, if_neg (by simp)] at HRS
                            have HY : Hid (∀ W, Mod [] w8 W → Calls Try.prog 45 #[ptr r, .bool true, .int .i64 52, .int .i64 (pos : Int)] W (StopP W r p 52 pos)) := Lib.hid (fun W hW => rdrBad_yes r p g xs p5 52 pos W (HRD.out W hW))
                            clear hrt
                            refine wp_regionE (Mod []) (by kernel_rfl) ?_
                            simp only [List.size_toArray, List.length_cons, List.length_nil, Nat.zero_add, Nat.reduceAdd]
                            refine wpAnyE_takeL (preMod _) 0 (v := ?_) rfl (by kernel_rfl) (by kernel_rfl) (by kernel_rfl) (fun _ _ _ h => h) (Or.inl ⟨by rfl, ?_⟩) ?_
                            rotate_left; (intro W hW; (try dsimp only at hW); go_simp; try with_reducible rfl)
                            (try simp only [Act.put, List.setIfInBounds_toArray, List.set_cons_zero, List.set_cons_succ])
                            refine wpAnyE_takeL (preMod _) 1 (v := ?_) rfl (by kernel_rfl) (by kernel_rfl) (by kernel_rfl) (fun _ _ _ h => h) (Or.inl ⟨by rfl, ?_⟩) ?_
                            rotate_left; (intro W hW; (try dsimp only at hW); go_simp; try with_reducible rfl)
                            (try simp only [Act.put, List.setIfInBounds_toArray, List.set_cons_zero, List.set_cons_succ])
                            refine wpAnyE_takeL (preMod _) 2 (v := ?_) rfl (by kernel_rfl) (by kernel_rfl) (by kernel_rfl) (fun _ _ _ h => h) (Or.inl ⟨by rfl, ?_⟩) ?_
                            rotate_left; (intro W hW; (try dsimp only at hW); go_simp; try with_reducible rfl)
                            (try simp only [Act.put, List.setIfInBounds_toArray, List.set_cons_zero, List.set_cons_succ])
                            refine wpAnyE_takeL (preMod _) 3 (v := ?_) rfl (by kernel_rfl) (by kernel_rfl) (by kernel_rfl) (fun _ _ _ h => h) (Or.inl ⟨by rfl, ?_⟩) ?_
                            rotate_left; (intro W hW; (try dsimp only at hW); go_simp; try with_reducible rfl)
                            (try simp only [Act.put, List.setIfInBounds_toArray, List.set_cons_zero, List.set_cons_succ])
                            refine wpAnyE_takeL (preMod _) 4 (v := ?_) rfl (by kernel_rfl) (by kernel_rfl) (by kernel_rfl) (fun _ _ _ h => h) (Or.inl ⟨by rfl, ?_⟩) ?_
                            rotate_left; (intro W hW; (try dsimp only at hW); go_simp; try with_reducible rfl)
                            (try simp only [Act.put, List.setIfInBounds_toArray, List.set_cons_zero, List.set_cons_succ])
                            refine wpAnyE_takeL (preMod _) 5 (v := ?_) rfl (by kernel_rfl) (by kernel_rfl) (by kernel_rfl) (fun _ _ _ h => h) (Or.inl ⟨by rfl, ?_⟩) ?_
                            rotate_left; (intro W hW; (try dsimp only at hW); (have hcw := HCQ.out W (hw0.trans hW); go_simp); try with_reducible rfl)
                            (try simp only [Act.put, List.setIfInBounds_toArray, List.set_cons_zero, List.set_cons_succ])
                            refine wpAnyE_takeL (preMod _) 6 (v := ?_) rfl (by kernel_rfl) (by kernel_rfl) (by kernel_rfl) (fun _ _ _ h => h) (Or.inl ⟨by rfl, ?_⟩) ?_
                            rotate_left; (intro W hW; (try dsimp only at hW); go_simp; try with_reducible rfl)
                            (try simp only [Act.put, List.setIfInBounds_toArray, List.set_cons_zero, List.set_cons_succ])
                            refine wpAnyE_takeL (preMod _) 7 (v := ?_) rfl (by kernel_rfl) (by kernel_rfl) (by kernel_rfl) (fun _ _ _ h => h) (Or.inl ⟨by rfl, ?_⟩) ?_
                            rotate_left; (intro W hW; (try dsimp only at hW); go_simp; try with_reducible rfl)
                            (try simp only [Act.put, List.setIfInBounds_toArray, List.set_cons_zero, List.set_cons_succ])
                            refine wpAnyE_takeL (preMod _) 8 (v := ?_) rfl (by kernel_rfl) (by kernel_rfl) (by kernel_rfl) (fun _ _ _ h => h) (Or.inl ⟨by rfl, ?_⟩) ?_
                            rotate_left; (intro W hW; (try dsimp only at hW); (go_simp; try rw [if_pos (by omega)]); try with_reducible rfl)
                            (try simp only [Act.put, List.setIfInBounds_toArray, List.set_cons_zero, List.set_cons_succ])
                            refine wpAnyE_takeL (preMod _) 9 (v := ?_) rfl (by kernel_rfl) (by kernel_rfl) (by kernel_rfl) (fun _ _ _ h => h) (Or.inl ⟨by rfl, ?_⟩) ?_
                            rotate_left; (intro W hW; (try dsimp only at hW); refine (run_load_cells rtHash (.tmp 67) (by rfl) (by rfl) (GHash.cells_length _) (HHA.out W (hw0.trans hW))).trans ?_; try with_reducible rfl)
                            (try simp only [Act.put, List.setIfInBounds_toArray, List.set_cons_zero, List.set_cons_succ])
                            refine wpAnyE_takeL (preMod _) 10 (v := ?_) rfl (by kernel_rfl) (by kernel_rfl) (by kernel_rfl) (fun _ _ _ h => h) (Or.inl ⟨by rfl, ?_⟩) ?_
                            rotate_left; (intro W hW; (try dsimp only at hW); refine (run_load_cells rtHash (.tmp 7) (by rfl) (by rfl) (GHash.cells_length _) (HHB.out W (hw0.trans hW))).trans ?_; try with_reducible rfl)
                            (try simp only [Act.put, List.setIfInBounds_toArray, List.set_cons_zero, List.set_cons_succ])
                            refine wpAnyE_takeL (preMod _) 14 (v := ?_) rfl (by kernel_rfl) (by kernel_rfl) (by kernel_rfl) (fun _ _ _ h => h) (Or.inl ⟨by rfl, ?_⟩) ?_
                            rotate_left; (intro W hW; (try dsimp only at hW); go_simp; try with_reducible rfl)
                            (try simp only [Act.put, List.setIfInBounds_toArray, List.set_cons_zero, List.set_cons_succ])
                            refine wpAnyE_ready (rs := [11]) (by kernel_rfl) (by simp) ?_
                            refine AllReadyE.consL rfl (fun K hK => ?_) AllReadyE.nil
                            rw [if_pos (by rfl)]
                            go_simp
                            go_at_call 50
                            refine (HS2.out _).mono ?_
                            rintro e' w9 ⟨rfl, hm9⟩
                            have hmE := hm9
                            have HM9 : Hid (Mod [] w8 w9) := Lib.hid (hw0.trans hm9)
                            go_wp2_with fail
                            refine hK.out _ _ (by first | exact hmE | exact Mod.refl _ _ | exact (Mod.refl _ _).alloc _) ?_
                            clear hK
                            (try simp only [Act.put, List.setIfInBounds_toArray, List.set_cons_zero, List.set_cons_succ])
                            refine wpAnyE_takeL (preMod _) 12 (v := ?_) rfl (by kernel_rfl) (by kernel_rfl) (by kernel_rfl) (fun _ _ _ h => h) (Or.inl ⟨by rfl, ?_⟩) ?_
                            rotate_left; (intro W hW; (try dsimp only at hW); go_simp; try with_reducible rfl)
                            (try simp only [Act.put, List.setIfInBounds_toArray, List.set_cons_zero, List.set_cons_succ])
                            refine wpAnyE_takeL (preMod _) 13 (v := ?_) rfl (by kernel_rfl) (by kernel_rfl) (by kernel_rfl) (fun _ _ _ h => h) (Or.inl ⟨by rfl, ?_⟩) ?_
                            rotate_left; (intro W hW; (try dsimp only at hW); go_simp; try with_reducible rfl)
                            (try simp only [Act.put, List.setIfInBounds_toArray, List.set_cons_zero, List.set_cons_succ])
                            refine wpAnyE_ready (rs := [15]) (by kernel_rfl) (by simp) ?_
                            refine AllReadyE.consL rfl (fun K hK => ?_) AllReadyE.nil
                            rw [if_pos (by rfl)]
                            go_simp
                            go_at_call 45
                            (with_reducible refine (HY.out w9 HM9.out).mono ?_)
                            rintro e' w10 ⟨q, rfl, hst⟩
                            exact ⟨rfl, NodeRxP.stop HRS.out (HN8.out.md.trans (HM9.out.mono (by simp))) ⟨q, rfl, hst⟩⟩
                    · have hii : ¬ ((i : Int) < (many : Int)) := by omega
                      have he : many - i = 0 := by omega
                      rw [he] at HRS
                      change Hid (res = K done pos) at HRS
                      rw [← HKT.out] at HRS
                      unfold rdTail at HRS
                      clear he HAT
                      go_wp2_with fail
                      have HGET := Lib.hid (opGet_any p g xs wr pos HN.out.rd.2.1 hpos (by omega))
                      have hopl := bl_ops pos (xs := xs)
                      refine HGET.out.mono ?_
                      intro e' w7 hp7
                      clear HGET c0 hrl hpl
                      cases hb : rdOps xs pos with
                      | bad why at_ =>
                        rw [hb] at hp7 HRS
                        change Hid (res = .bad why at_) at HRS
                        obtain ⟨q, rfl, hbad, hm7, hq7⟩ := hp7
                        have HBAD := Lib.hid hbad
                        have HM7 := Lib.hid hm7
                        have HRR : Hid (Blk w7 r 67 #[ptr p, .nilIface]) := Lib.hid (HN.out.rd.1.mod hm7 (by simpa using HN.out.rd.ne))
                        have HST := Lib.hid (stop_any r p q .nilIface w7 HRR.out)
                        have hrl := HN.out.rd.1.lt
                        clear hbad hm7 hb
                        unfold badV
                        go_wp2_with fail
                        refine HST.out.mono ?_
                        rintro e' w8 ⟨rfl, hr8, hm8⟩
                        exact ⟨rfl, NodeRxP.stop HRS.out HN.out.md (stopP HBAD.out HM7.out hq7 hr8 hm8 hrl)⟩
                      | ok ops p6 =>
                        rw [hb] at hp7 HRS
                        change Hid (res = if p6 < xs.length then .bad 23 p6 else .ok ⟨ai, cl, done, ops⟩ p6) at HRS
                        have hp6l : p6 ≤ xs.length := ((hopl hpos).2 ops p6 hb).2
                        obtain ⟨A7, n7, c7, rfl, hown7, hI7, hm7, hf7⟩ := hp7
                        have HN7 := Lib.hid (HN.out.read (HN.out.rd.step hI7 hm7) (hm7.mono (by simp)))
                        have HOW7 := Lib.hid (HOW.out.mod hm7 (fun b hb => by have := HBK.out b hb; have := HLT.out; simp; omega))
                        have HOP7 := Lib.hid hown7
                        have HBK7 : Hid (∀ b ∈ blks (.slice A7 n7 c7), w.heap.size ≤ b) := Lib.hid (fun b hb => Nat.le_trans HN.out.md.size (hf7 b hb))
                        clear hown7 hI7 hm7 hf7 hb hopl HN HOW hpos hii him
                        obtain ⟨d0, d1, d2, d3, _⟩ := HN7.out.nod.open_
                        have f3 := HN7.out.nod.frozen 3
                        go_upto_region 20 with fail
                        have hm8 : Mod [q3] w7 (w7.setCell ⟨q3, 3, none⟩ (.slice A7 n7 c7)) := (Mod.refl [q3] w7).setCell _ (by simp) _
                        have HN8 := Lib.hid (HN7.out.put (NodB.set3 (ov' := .slice A7 n7 c7) HN7.out.nod) hm8)
                        have HOW8 := Lib.hid (HOW7.out.mod hm8 (fun b hb h1 => own_ne HOW7.out HN7.out.nod (by decide) (by simp at h1; rw [← h1]; exact hb)))
                        have HOP8 := Lib.hid (HOP7.out.mod hm8 (fun b hb h1 => own_ne HOP7.out HN7.out.nod (by decide) (by simp at h1; rw [← h1]; exact hb)))
                        obtain ⟨w8, hw8⟩ : ∃ w8, w7.setCell ⟨q3, 3, none⟩ (.slice A7 n7 c7) = w8 := ⟨_, rfl⟩
                        rw [hw8] at HN8 HOW8 HOP8
                        rw [hw8]
                        clear hw8 hm8 HN7 HOW7 HOP7 d0 d1 d2 d3 f3
                        obtain ⟨c0, hrl, hpl⟩ := HN8.out.rd.cells
                        have HEND := Lib.hid (inEnd_any p g xs w8 p6 HN8.out.rd.2.1 hp6l)
                        go_wp2_with fail
                        refine HEND.out.mono ?_
                        intro e' w9 hp9
                        unfold EndP at hp9
                        clear HEND c0 hpl
                        by_cases hend : p6 < xs.length
                        · rw [if_pos hend] at hp9 HRS
                          obtain ⟨q, rfl, hbad, _, hm9, hq9⟩ := hp9
                          have HBAD := Lib.hid hbad
                          have HM9 := Lib.hid hm9
                          have HRR : Hid (Blk w9 r 67 #[ptr p, .nilIface]) := Lib.hid (HN8.out.rd.1.mod hm9 (by simpa using HN8.out.rd.ne))
                          have HST := Lib.hid (stop_any r p q .nilIface w9 HRR.out)
                          clear hbad hm9
                          unfold badV
                          go_wp2_with fail
                          refine HST.out.mono ?_
                          rintro e' w10 ⟨rfl, hr10, hm10⟩
                          exact ⟨rfl, NodeRxP.stop HRS.out HN8.out.md (stopP HBAD.out HM9.out hq9 hr10 hm10 hrl)⟩
                        · rw [if_neg hend] at hp9 HRS
                          obtain ⟨rfl, hI9, hm9⟩ := hp9
                          have HN9 := Lib.hid (HN8.out.read (HN8.out.rd.step hI9 hm9) (hm9.mono (by simp)))
                          have HOW9 := Lib.hid (HOW8.out.mod hm9 (fun b hb => by have := HBK.out b hb; have := HLT.out; simp; omega))
                          have HOP9 := Lib.hid (HOP8.out.mod hm9 (fun b hb => by have := HBK7.out b hb; have := HLT.out; simp; omega))
                          clear hI9 hm9 HN8 HOW8 HOP8
                          obtain ⟨_, _, _, _, HC⟩ := HN9.out.nod.open_
                          have HRB : Hid (Blk w9 q2 26 (nodeL 0 0 (.slice none 0 0) (.slice none 0 0)).toArray) := Lib.hid HN9.out.res
                          go_wp2_with (first | ((with_reducible refine wpList_load_node _ rfl ?hgd HC.out ?hx ?_); (case hgd => exact rfl); (case hx => exact rfl)) | ((with_reducible refine wpList_store_node (au := (ai : Int)) (cl := (cl : Int)) (pv := .slice A n c) (ov := .slice A7 n7 c7) _ _ rfl ?hgd ?hx ?hy HRB.out ?hold ?hp ?hv ?_); (case hgd => exact rfl); (case hx => exact rfl); (case hy => exact rfl); (case hold => exact rfl); (case hp => exact rfl); (case hv => exact rfl); intro w10 hb10 hm10; have HB10 := Lib.hid hb10; have HM10 := Lib.hid hm10; clear hb10 hm10))
                          refine bodyPost_ret (results_row rtNode rfl rfl HB10.out rfl) rfl ?_
                          rw [HRS.out]
                          refine ⟨_, _, rfl, HOW9.out.mod HM10.out (fun b hb h1 => own_ne HOW9.out HN9.out.res (by decide) (by simp at h1; rw [← h1]; exact hb)), HOP9.out.mod HM10.out (fun b hb h1 => own_ne HOP9.out HN9.out.res (by decide) (by simp at h1; rw [← h1]; exact hb)), HBK.out, HBK7.out, HN9.out.md.then HM10.out (by have := HN9.out.b2; simp; omega)⟩
                · rw [if_neg hd] at HRES
                  have hcb : clockBad (cl : Int) many = true := HCB0.out.2 (by rw [show decide ((cl : Int) = 1) = decide (cl = 1) by congr 1; simp; omega]; exact hd)
                  rw [hcb]
                  have HY := Lib.hid (rdrBad_yes r p g xs p4 51 2 w6 HN6.out.rd)
                  refine HY.out.mono ?_
                  rintro e' w7 ⟨q, rfl, hst⟩
                  exact ⟨rfl, NodeRxP.stop HRES.out HN6.out.md ⟨q, rfl, hst⟩⟩
        · rw [if_neg ha] at HRES
          obtain ⟨d0, d1, d2, d3, _⟩ := HNS.out.nod.open_
          have HY := Lib.hid (rdrBad_yes r p g xs p2 50 1 w3 HNS.out.rd)
          by_cases hx1 : (ai : Int) < 1
          · go_wp2_with fail
            refine HY.out.mono ?_
            rintro e' w4 ⟨q, rfl, hst⟩
            exact ⟨rfl, NodeRxP.stop HRES.out HNS.out.md ⟨q, rfl, hst⟩⟩
          · have hx2 : (8 : Int) < (ai : Int) := by omega
            go_wp2_with fail
            refine HY.out.mono ?_
            rintro e' w4 ⟨q, rfl, hst⟩
            exact ⟨rfl, NodeRxP.stop HRES.out HNS.out.md ⟨q, rfl, hst⟩⟩
    · rw [if_neg hf] at HRES
      have hfi : ((form.toNat : Int) != 1) = true := by
        rw [bne_iff_ne]
        intro h
        exact hf (UInt8.toNat_inj.1 (by simp; omega))
      have HY := Lib.hid (rdrBad_yes r p g xs p1 5 0 w1 hR1)
      have HM1 := Lib.hid hm1
      clear hR1 hm1
      go_wp2_with fail
      refine HY.out.mono ?_
      rintro e' w2 ⟨q, rfl, hst⟩
      exact ⟨rfl, NodeRxP.stop HRES.out (((Mod.refl [p, r] w).alloc _).trans HM1.out) ⟨q, rfl, hst⟩⟩
end Go.Proofs.Ytlpjeckhejbkkaa
end

section
set_option linter.unusedVariables false
set_option linter.unusedSimpArgs false
set_option maxRecDepth 20000
set_option maxHeartbeats 1600000
namespace Go.Proofs.Ytlpjeckhejbkkaa
open Go.RowKit

def DecP (w : World) (res : Rd GNode) (e' : Ending) (w' : World) : Prop :=
  match res with
  | .ok n _ => ∃ pv ov, e' = .returned (.tuple #[nodeV n.author n.clock pv ov, .nilIface]) ∧ OwnH w' pv n.parents ∧ OwnO w' ov n.ops ∧ (∀ b ∈ blks pv, w.heap.size ≤ b) ∧ (∀ b ∈ blks ov, w.heap.size ≤ b) ∧ Mod [] w w'
  | .bad why at_ => ∃ q, e' = .returned (.tuple #[nodeV 0 0 (.slice none 0 0) (.slice none 0 0), badV q]) ∧ BadAt w' q why at_ ∧ Mod [] w w' ∧ w.heap.size ≤ q
theorem catch_panicking (a r q q2 q3 : Nat) (x : Value) (au cl : Int) (pv ov : Value) (older : List PanicEntry) (w : World) (ha : Blk w a 63 #[ptr r]) (hr : w.cell? ⟨r, 1, none⟩ = some (badV q)) (h2 : NodB w q2 au cl pv ov) (h3 : Blk w q3 32 #[x]) :
    CallsD Try.prog 27 #[ptr a, ptr q2, ptr q3] (.panicking ({ v := badV q, recovered := false } :: older)) w fun e u' w' =>
      e = .returned (.tuple #[]) ∧ u' = .panicking ({ v := badV q, recovered := true } :: older) ∧ NodB w' q2 0 0 (.slice none 0 0) (.slice none 0 0) ∧ Blk w' q3 32 #[badV q] ∧ Mod [q2, q3] w w' := by
  have c0 := ha.cell 0
  have HR := Lib.hid hr
  unfold badV at hr ⊢
  have H2 := Lib.hid h2
  have H3 := Lib.hid h3
  have c3 := h3.cell 0
  have f3 := h3.frozen 0
  clear h2 h3
  refine callsD_of_wpS Try.func27 rfl fun c₀ cs hu => ?_
  apply wpS_seq
  apply wpS_region
  simp [wpOpsS, go_sem, recoverD, hu, Try.ntmps27, Exit.thenS]
  refine wpS_cond (t := true) (by simp [Act.eval, Array.replicate]) ?_
  simp only [if_true]
  refine wpS_of_wp ?_
  have ht : (#[ptr a, ptr q2, ptr q3] ++ ((Array.replicate 7 undef).setIfInBounds 0 (.iface 60 (ptr q))).setIfInBounds 1 (.bool true) : Array Value) = #[ptr a, ptr q2, ptr q3, .iface 60 (ptr q), .bool true, undef, undef, undef, undef, undef] := rfl
  rw [ht]
  clear ht
  have HB2 : Hid (Blk w q2 26 (nodeL au cl pv ov).toArray) := H2
  have hne : q3 ≠ q2 := Blk.ne_ H3.out H2.out (by decide)
  have HNE := Lib.hid hne
  clear hne c3 f3
  go_wp2_with (first | ((with_reducible refine wpList_store_node (au := 0) (cl := 0) (pv := .slice none 0 0) (ov := .slice none 0 0) _ _ rfl ?hgd ?hx ?hy HB2.out ?hold ?hp ?hv ?_); (case hgd => exact rfl); (case hx => exact rfl); (case hy => exact rfl); (case hold => exact rfl); (case hp => exact rfl); (case hv => exact rfl); intro w1 hb1 hm1; have HB1 := Lib.hid hb1; have HM1 := Lib.hid hm1; have h31 : Blk w1 q3 32 #[x] := H3.out.mod hm1 (by have := HNE.out; simpa using this); have HB3 := Lib.hid h31; have c3 := h31.cell 0; have f3 := h31.frozen 0; clear hb1 hm1 h31))
  simp only [bodyPostS]
  refine ⟨trivial, .panicking ({ v := .iface 60 (ptr q), recovered := true } :: older), ?_, .tuple #[], by simp [results, Try.results27, go_sem], rfl, rfl, ?_, ?_, ?_⟩
  · cases c₀; simp_all
  · exact HB1.out.mod ((Mod.refl [q3] w1).setCell ⟨q3, 0, none⟩ (by simp) _) (by have := HNE.out; simp; omega)
  · exact HB3.out.set_ 0 _
  · exact (HM1.out.mono (by simp)).trans (((Mod.refl [q2, q3] w1).setCell ⟨q3, 0, none⟩ (by simp) _))
theorem catch_idle (a q2 q3 : Nat) (w : World) :
    CallsD Try.prog 27 #[ptr a, ptr q2, ptr q3] .returning w fun e u' w' => e = .returned (.tuple #[]) ∧ u' = .returning ∧ w' = w := by
  refine callsD_of_wpS Try.func27 rfl fun c₀ cs hu => ?_
  apply wpS_seq
  apply wpS_region
  simp [wpOpsS, go_sem, recoverD, hu, Try.ntmps27, Exit.thenS]
  refine wpS_cond (t := false) (by simp [Act.eval, Array.replicate]) ?_
  simp only [Bool.false_eq_true, if_false]
  refine wpS_of_wp (wp_skip ?_)
  cases c₀
  simp_all [bodyPostS, results, Try.results27]
theorem results_row_cell {P : Program} {fn : Func} {p q : Tmp} {ty tz : TypeId} {sz : Nat} (E : RowT P ty sz) (h : fn.results = #[.cell p ty, .cell q tz]) {tmps : Array Value} {w : World} {g k : Nat} {te : TypeId} {cs : Array Value} {v : Value}
    (hp : tmps.getD p undef = .pointer (some ⟨g, 0, none⟩)) (hb : Blk w g te cs) (hsz : cs.size = sz) (hq : tmps.getD q undef = .pointer (some ⟨k, 0, none⟩)) (hv : (loadVar tz ⟨k, 0, none⟩).run P w = .ok v w) :
    (results fn tmps).run P w = .ok (.tuple #[.agg cs, v]) w := by
  have hp' : tmps[p]?.getD undef = .pointer (some ⟨g, 0, none⟩) := by simpa using hp
  have hq' : tmps[q]?.getD undef = .pointer (some ⟨k, 0, none⟩) := by simpa using hq
  simp [results, h, hp', hq', asAddr, run_load_blk E hb hsz, hv]
theorem run_load_err {w : World} {k : Nat} {v : Value} (hc : w.cell? ⟨k, 0, none⟩ = some v) : (loadVar 32 ⟨k, 0, none⟩).run Try.prog w = .ok v w := by
  simp [loadVar, isAgg, run_underlying Try.underlying32, hc]
theorem decode_any (xs : Bytes) (g : Nat) (sv : Value) (w : World) (hs : BS w g sv xs) :
    Calls Try.prog 11 #[sv] w (DecP w (rdNode xs)) := by
  obtain ⟨A, cap, rfl, hc1, hc2⟩ := hs.val
  unfold maxLen at hc2
  have HS := Lib.hid hs; clear hs
  obtain ⟨res, hres⟩ : ∃ res, rdNode xs = res := ⟨_, rfl⟩
  have HRES := Lib.hid hres.symm
  rw [hres]
  rw [rdNode_E] at HRES
  clear hres
  have hmf : ∀ (fn : Fn) (first cap : Array Value) (w : World), (Instr.makeFunc fn first cap).run Try.prog w = .ok (.func fn first cap) w := fun _ _ _ _ => rfl
  have hb2 : Blk ((w.alloc (.cells #[.int .i64 0, .int .i64 0, .slice none 0 0, .slice none 0 0] 26)).alloc (.cells #[.nilIface] 32)) w.heap.size 26 (nodeL 0 0 (.slice none 0 0) (.slice none 0 0)).toArray := (Blk.new w _ _).alloc _
  have hb3 : Blk ((w.alloc (.cells #[.int .i64 0, .int .i64 0, .slice none 0 0, .slice none 0 0] 26)).alloc (.cells #[.nilIface] 32)) (w.heap.size + 1) 32 #[.nilIface] := by
    have := Blk.new (w.alloc (.cells #[.int .i64 0, .int .i64 0, .slice none 0 0, .slice none 0 0] 26)) 32 #[.nilIface]
    simpa using this
  have hm0 : Mod [] w ((w.alloc (.cells #[.int .i64 0, .int .i64 0, .slice none 0 0, .slice none 0 0] 26)).alloc (.cells #[.nilIface] 32)) := ((Mod.refl [] w).alloc _).alloc _
  have hsz0 : ((w.alloc (.cells #[.int .i64 0, .int .i64 0, .slice none 0 0, .slice none 0 0] 26)).alloc (.cells #[.nilIface] 32)).heap.size = w.heap.size + 2 := by simp
  obtain ⟨w0, hw0⟩ : ∃ w0, (w.alloc (.cells #[.int .i64 0, .int .i64 0, .slice none 0 0, .slice none 0 0] 26)).alloc (.cells #[.nilIface] 32) = w0 := ⟨_, rfl⟩
  rw [hw0] at hb2 hb3 hm0 hsz0
  obtain ⟨q2, hq2⟩ : ∃ q2, w.heap.size = q2 := ⟨_, rfl⟩
  obtain ⟨q3, hq3⟩ : ∃ q3, q2 + 1 = q3 := ⟨_, rfl⟩
  rw [hq2] at hb2
  rw [hq2, hq3] at hb3
  have HB2 := Lib.hid hb2
  have HB3 := Lib.hid hb3
  have HM0 := Lib.hid hm0
  have HW0 := Lib.hid hw0
  have HQ2 := Lib.hid hq2
  have HQ3 := Lib.hid hq3
  have HSZ := Lib.hid hsz0
  clear hb2 hb3 hm0 hw0 hq2 hq3 hsz0
  by_cases hbig : 1048576 < xs.length
  · rw [if_pos hbig] at HRES
    have hbi : (1048576 : Int) < xs.length := by omega
    go_enter_defers Try.func11, Try.ntmps11
    go_upto_region 2 with fail
    rw [HW0.out, HQ2.out, HQ3.out]
    clear HW0
    go_wp2_with ((with_reducible refine wpList_store_node (au := 0) (cl := 0) (pv := .slice none 0 0) (ov := .slice none 0 0) _ _ rfl ?hgd ?hx ?hy (HB2.out.alloc _) ?hold ?hp ?hv ?_); (case hgd => exact rfl); (case hx => exact rfl); (case hy => exact rfl); (case hold => exact rfl); (case hp => exact rfl); (case hv => exact rfl); intro w1 hb1 hm1; have HB1 := Lib.hid hb1; have HM1 : Hid (Mod [q2] w0 w1) := Lib.hid (((Mod.refl [q2] w0).alloc _).trans hm1); have HBD : Hid (BadAt w1 w0.heap.size 4 1048576) := Lib.hid (Blk.mod (Blk.new w0 _ _) hm1 (by have := HB2.out.lt; simp; omega)); have h31 : Blk w1 q3 32 #[.nilIface] := HB3.out.mod HM1.out (by have := HQ3.out; simp; omega); have HB31 := Lib.hid h31; have c3 := h31.cell 0; have f3 := h31.frozen 0; clear hb1 hm1 h31)
    refine ⟨_, results_row_cell rtNode rfl rfl (HB1.out.mod ((Mod.refl [q3] w1).setCell ⟨q3, 0, none⟩ (by simp) _) (by have := HQ3.out; simp; omega)) rfl rfl (run_load_err ((HB31.out.set_ 0 _).cell 0)), ?_⟩
    rw [HRES.out]
    refine ⟨w0.heap.size, rfl, Blk.mod HBD.out ((Mod.refl [q3] w1).setCell ⟨q3, 0, none⟩ (by simp) _) (by have := HB3.out.lt; simp; omega), ?_, by have := HSZ.out; omega⟩
    exact (HM0.out.then HM1.out (by have := HQ2.out; simp; omega)).then ((Mod.refl [q3] w1).setCell ⟨q3, 0, none⟩ (by simp) _) (by have := HQ2.out; have := HQ3.out; simp; omega)
  · rw [if_neg hbig] at HRES
    have hbi : ¬ ((1048576 : Int) < xs.length) := by omega
    go_enter_defers Try.func11, Try.ntmps11
    go_upto_region 3 with fail
    rw [HW0.out, HQ2.out, HQ3.out]
    clear HW0
    go_wp2_with fail
    refine (newIn_any _ g xs w0 (HS.out.mod HM0.out (by simp)) (by omega)).mono ?_
    rintro e' w1 ⟨p, gi, rfl, hI1, hm1, hp1, hgi⟩
    have HI1 := Lib.hid hI1
    have HM1 := Lib.hid hm1
    have HP1 := Lib.hid hp1
    have HB21 : Hid (Blk w1 q2 26 (nodeL 0 0 (.slice none 0 0) (.slice none 0 0)).toArray) := Lib.hid (HB2.out.mod hm1 (by simp))
    have HB31 : Hid (Blk w1 q3 32 #[.nilIface]) := Lib.hid (HB3.out.mod hm1 (by simp))
    have HGI : Hid (0 < xs.length → gi < w1.heap.size) := Lib.hid (fun h0 => by
      obtain ⟨v, _, hr, _⟩ := hI1
      obtain ⟨_, _, _, _, _, hl', _⟩ := hr.at_ h0
      exact hl')
    clear hI1 hm1 hp1 hgi HB2 HB3
    go_wp2_with fail
    obtain ⟨r, hr⟩ : ∃ r, w1.heap.size = r := ⟨_, rfl⟩
    have hb4 : Blk ((w1.alloc (.cells #[ptr p, .nilIface] 67)).alloc (.cells #[ptr r] 63)) r 67 #[ptr p, .nilIface] := by rw [← hr]; exact (Blk.new w1 _ _).alloc _
    have hb5 : Blk ((w1.alloc (.cells #[ptr p, .nilIface] 67)).alloc (.cells #[ptr r] 63)) (r + 1) 63 #[ptr r] := by
      have := Blk.new (w1.alloc (.cells #[ptr p, .nilIface] 67)) 63 #[ptr r]
      simpa [hr] using this
    have hm2 : Mod [] w1 ((w1.alloc (.cells #[ptr p, .nilIface] 67)).alloc (.cells #[ptr r] 63)) := ((Mod.refl [] w1).alloc _).alloc _
    rw [hr]
    obtain ⟨w2, hw2⟩ : ∃ w2, (w1.alloc (.cells #[ptr p, .nilIface] 67)).alloc (.cells #[ptr r] 63) = w2 := ⟨_, rfl⟩
    rw [hw2] at hb4 hb5 hm2
    rw [hw2]
    have HRD : Hid (RdrB w2 r p gi xs 0) := Lib.hid ⟨hb4, HI1.out.mod hm2 (by simp) (by simp), fun h0 => by have := HGI.out h0; omega⟩
    have HA : Hid (Blk w2 (r + 1) 63 #[ptr r]) := Lib.hid hb5
    have HB22 : Hid (Blk w2 q2 26 (nodeL 0 0 (.slice none 0 0) (.slice none 0 0)).toArray) := Lib.hid (HB21.out.mod hm2 (by simp))
    have HB32 : Hid (Blk w2 q3 32 #[.nilIface]) := Lib.hid (HB31.out.mod hm2 (by simp))
    have hpl := HI1.out.lt
    have hsz1 := HM1.out.size
    have HK : Hid (w.heap.size ≤ q2 ∧ q2 < q3 ∧ q3 < p ∧ p < r ∧ w.heap.size ≤ w2.heap.size) := Lib.hid (by have := HQ2.out; have := HQ3.out; have := HSZ.out; have := HP1.out; have := HM0.out.size; have := hm2.size; omega)
    have HM2 := Lib.hid ((HM0.out.trans HM1.out).trans hm2)
    clear hb4 hb5 hm2 hw2 hr HI1 HM1 HM0 HP1 HB21 HB31 HGI HQ2 HQ3 HSZ hpl hsz1
    have HND := Lib.hid (rdrNode_any r p gi xs w2 HRD.out (by omega))
    rw [← HRES.out] at HND
    clear HRES
    refine HND.out.mono ?_
    intro e' w3 hp3
    clear HND
    cases res with
    | bad why at_ =>
      obtain ⟨q, rfl, hbad, hr3, hm3, hq3⟩ := hp3
      have HK2 := HK.out
      have h2 : NodB w3 q2 0 0 (.slice none 0 0) (.slice none 0 0) := Blk.mod HB22.out hm3 (by simp; omega)
      have h3 : Blk w3 q3 32 #[.nilIface] := HB32.out.mod hm3 (by simp; omega)
      have ha : Blk w3 (r + 1) 63 #[ptr r] := HA.out.mod hm3 (by simp; omega)
      have hlt := ha.lt
      refine leaves_cons (f := 27) (args := #[ptr (r + 1), ptr q2, ptr q3]) (by simp) (by simp [go_sem]) ?_
      refine (catch_panicking (r + 1) r q q2 q3 .nilIface 0 0 (.slice none 0 0) (.slice none 0 0) [] w3 ha (hr3.cell 1) h2 h3).mono ?_
      rintro e u' w4 ⟨rfl, rfl, hn4, he4, hm4⟩
      refine ⟨_, results_row_cell rtNode rfl rfl hn4 rfl rfl (run_load_err (he4.cell 0)), q, rfl, Blk.mod hbad hm4 ?_, (HM2.out.then hm3 (by simp; omega)).then hm4 (by simp; omega), by omega⟩
      have e2 := HB22.out.lt
      have e3 := HB32.out.lt
      simp
      omega
    | ok n pos =>
      obtain ⟨pv, ov, rfl, hown1, hown2, hf1, hf2, hm3⟩ := hp3
      have HK2 := HK.out
      obtain ⟨pA, pc, rfl, _, _⟩ := hown1.val
      obtain ⟨oA, oc, rfl, _, _⟩ := hown2.val
      have HB23 : Hid (Blk w3 q2 26 (nodeL 0 0 (.slice none 0 0) (.slice none 0 0)).toArray) := Lib.hid (HB22.out.mod hm3 (by simp; omega))
      have HB33 : Hid (Blk w3 q3 32 #[.nilIface]) := Lib.hid (HB32.out.mod hm3 (by simp; omega))
      have e2 := HB22.out.lt
      have e3 := HB32.out.lt
      have HN3 : Hid (q3 ≠ q2) := Lib.hid (by omega)
      have HO1 := Lib.hid hown1
      have HO2 := Lib.hid hown2
      have HF1 : Hid (∀ b ∈ blks (.slice pA n.parents.length pc), w.heap.size ≤ b ∧ b ≠ q2 ∧ b ≠ q3) := Lib.hid (fun b hb => by have := hf1 b hb; omega)
      have HF2 : Hid (∀ b ∈ blks (.slice oA n.ops.length oc), w.heap.size ≤ b ∧ b ≠ q2 ∧ b ≠ q3) := Lib.hid (fun b hb => by have := hf2 b hb; omega)
      have HM3 : Hid (Mod [] w w3) := Lib.hid (HM2.out.then hm3 (by simp; omega))
      clear hown1 hown2 hf1 hf2 hm3 HK2 HB22 HB32 HM2 HRD HA e2 e3
      obtain ⟨au, cl, ps, os⟩ := n
      dsimp only at *
      go_wp2_with ((with_reducible refine wpList_store_node (au := au) (cl := cl) (pv := .slice pA ps.length pc) (ov := .slice oA os.length oc) _ _ rfl ?hgd ?hx ?hy HB23.out ?hold ?hp ?hv ?_); (case hgd => exact rfl); (case hx => exact rfl); (case hy => exact rfl); (case hold => exact rfl); (case hp => exact rfl); (case hv => exact rfl); intro w4 hb4 hm4; have HB4 := Lib.hid hb4; have HM4 := Lib.hid hm4; have h34 : Blk w4 q3 32 #[.nilIface] := HB33.out.mod hm4 (by have := HN3.out; simp; omega); have HB34 := Lib.hid h34; have c3 := h34.cell 0; have f3 := h34.frozen 0; clear hb4 hm4 h34)
      refine leaves_cons (f := 27) (args := #[ptr (r + 1), ptr q2, ptr q3]) (by simp) (by simp [go_sem]) ?_
      refine (catch_idle (r + 1) q2 q3 _).mono ?_
      rintro e u' w5 ⟨rfl, rfl, rfl⟩
      have hm5 : Mod [q3] w4 (w4.setCell ⟨q3, 0, none⟩ .nilIface) := (Mod.refl [q3] w4).setCell ⟨q3, 0, none⟩ (by simp) _
      refine ⟨_, results_row_cell rtNode rfl rfl (HB4.out.mod hm5 (by have := HN3.out; simp; omega)) rfl rfl (run_load_err ((HB34.out.set_ 0 _).cell 0)), _, _, rfl, ?_, ?_, fun b hb => (HF1.out b hb).1, fun b hb => (HF2.out b hb).1, ?_⟩
      · exact (HO1.out.mod HM4.out (fun b hb => by have := HF1.out b hb; simp; omega)).mod hm5 (fun b hb => by have := HF1.out b hb; simp; omega)
      · exact (HO2.out.mod HM4.out (fun b hb => by have := HF2.out b hb; simp; omega)).mod hm5 (fun b hb => by have := HF2.out b hb; simp; omega)
      · exact (HM3.out.then HM4.out (by have := HK.out; simp; omega)).then hm5 (by have := HK.out; simp; omega)
end Go.Proofs.Ytlpjeckhejbkkaa
end

section
set_option linter.unusedVariables false
set_option linter.unusedSimpArgs false
set_option maxRecDepth 20000
set_option maxHeartbeats 1600000
namespace Go.Proofs.Ytlpjeckhejbkkaa
open Go.RowKit

/-! ### an error as the document has it; some fixed answers -/
theorem assert_bad (v : Value) (w : World) : (Instr.typeAssert (.iface 60 v) 32 60 true).run Try.prog w = .ok (.tuple #[v, .bool true]) w := by kernel_rfl
theorem told_nil (w : World) : Calls Try.prog 12 #[.nilIface] w fun e w' => e = .returned (.tuple #[errV 0 0, .bool true]) ∧ Mod [] w w' := by
  have HE := Lib.hid (Blk.new w 36 #[.int .i64 0, .int .i64 0])
  go_enter Try.func12, Try.ntmps12
  have h0 := HE.out.cell 0
  have h1 := HE.out.cell 1
  have f0 := HE.out.frozen 0
  have f1 := HE.out.frozen 1
  go_wp2
  exact bodyPost_ret (results_row_tmp rtErr rfl rfl HE.out rfl) rfl ⟨rfl, (Mod.refl [] w).alloc _⟩
theorem told_bad (w : World) (b y a : Nat) (hb : BadAt w b y a) (hy : y ≠ 0) : Calls Try.prog 12 #[badV b] w fun e w' => e = .returned (.tuple #[errV y a, .bool true]) ∧ Mod [] w w' := by
  have HE := Lib.hid (Blk.new w 36 #[.int .i64 0, .int .i64 0])
  have HB := Lib.hid (Blk.mod hb ((Mod.refl [] w).alloc (.cells #[.int .i64 0, .int .i64 0] 36)) (by simp))
  have HM := Lib.hid ((Mod.refl [] w).alloc (.cells #[.int .i64 0, .int .i64 0] 36))
  obtain ⟨w1, hw1⟩ : ∃ w1, w.alloc (.cells #[.int .i64 0, .int .i64 0] 36) = w1 := ⟨_, rfl⟩
  obtain ⟨z, hz⟩ : ∃ z, w.heap.size = z := ⟨_, rfl⟩
  rw [hw1] at HE HB HM
  rw [hz] at HE
  have HZ := Lib.hid hz
  have hbz : b ≠ z := by have := hb.lt; omega
  have hzb : z ≠ b := by omega
  clear hb
  go_enter Try.func12, Try.ntmps12
  unfold badV
  have has := assert_bad (ptr b) w1
  have c0 := HB.out.cell 0
  have hy0 : ((y : Int) == 0) = false := by simp; omega
  have hy1 : ¬ ((y : Int) = 0) := by omega
  go_upto_region 6 with fail
  clear has hw1 hz c0
  have hz0 := HE.out.cell 0
  have hz1 := HE.out.cell 1
  have f0 := HE.out.frozen 0
  have f1 := HE.out.frozen 1
  have hzl := HE.out.lt
  have c0 := HB.out.cell 0
  have c1 := HB.out.cell 1
  have hbl := HB.out.lt
  go_region
  go_wp2
  have hB := Blk.drew ((HE.out.set_ 0 (.int .i64 (y : Int))).set_ 1 (.int .i64 (a : Int)))
  have hM : Mod [] w ((w1.setCell ⟨z, 0, none⟩ (.int .i64 (y : Int))).setCell ⟨z, 1, none⟩ (.int .i64 (a : Int))).drew := HM.out.then (((Mod.refl [z] w1).setCell _ (by simp) _).setCell _ (by simp) _).drew (by have := HZ.out; simp; omega)
  exact bodyPost_ret (results_row_tmp rtErr rfl rfl hB rfl) rfl ⟨rfl, hM⟩
theorem enc_one : encOf ⟨1, 1, [], []⟩ = ([1, 1, 1, 0, 0], 0) := by
  have h0 : checkNode ⟨1, 1, [], []⟩ = 0 := by decide
  have h1 : nodeBlock ⟨1, 1, [], []⟩ = [1, 1, 1, 0, 0] := by
    have e1 : putNum 1 = [1] := putNum_lt (by omega)
    have e0 : putNum 0 = [0] := putNum_lt (by omega)
    simp [nodeBlock, putOps, e1, e0]
  unfold encOf
  rw [if_pos h0, h1]
  rfl
theorem dec_one : rdNode [1, 2, 1, 0, 0] = .ok ⟨2, 1, [], []⟩ 5 := by rfl
theorem dec_nine : rdNode [1, 9] = .bad 50 1 := by rfl
theorem bs_of_blk {w : World} {g : Nat} {t : TypeId} {xs : Bytes} (hb : Blk w g t (xs.map bv).toArray) (hz : xs.length ≤ 1000000) : BS w g (.slice (some ⟨g, 0, none⟩) xs.length xs.length) xs :=
  ⟨by simp, _, _, rfl, Nat.le_refl _, by unfold maxLen; omega, fun _ => ⟨0, rfl, hb.lt, fun i u hu => by rw [Nat.zero_add, hb.cell i]; simpa using hu⟩⟩
theorem nodR_nil (w : World) (au cl : Int) : NodR w ⟨au, cl, [], []⟩ 0 0 (.slice none 0 0) (.slice none 0 0) := ⟨RS.nil w 32 0, RS.nil w 37 0⟩
def AW (w : World) (q g1 : Nat) (v1 pv ov : Value) (w' : World) : Prop := NodB w' q 2 1 pv ov ∧ BS w' g1 v1 [1, 1, 1, 0, 0] ∧ OwnH w' pv [] ∧ OwnO w' ov [] ∧ Mod [] w w'
theorem AW.mod {w w1 w2 : World} {q g1 : Nat} {v1 pv ov : Value} (h : AW w q g1 v1 pv ov w1) (hm : Mod [] w1 w2) : AW w q g1 v1 pv ov w2 :=
  ⟨h.1.mod hm (by simp), h.2.1.mod hm (by simp), h.2.2.1.mod hm (by simp), h.2.2.2.1.mod hm (by simp), h.2.2.2.2.trans hm⟩
theorem awake_any (w : World) : Calls Try.prog 9 #[] w fun e w' => e = .returned (.bool true) ∧ Mod [] w w' := by
  go_enter Try.func9, Try.ntmps9
  go_wp2_with fail
  have HEN : Hid (Calls Try.prog 10 #[.agg #[.int .i64 1, .int .i64 1, .slice none 0 0, .slice none 0 0]] w (EncP w ([1, 1, 1, 0, 0], 0))) := Lib.hid (by
    have h := encode_any ⟨1, 1, [], []⟩ 0 0 _ _ w (nodR_nil w 1 1) (by simp)
    rw [enc_one] at h
    exact h)
  refine HEN.out.mono ?_
  rintro e' w1 ⟨v1, rfl, hown1, hm1, _⟩
  obtain ⟨g1, hb1, _⟩ := hown1.bs
  obtain ⟨A1, c1, rfl, _, _⟩ := hb1.val
  have HB1 := Lib.hid hb1
  have HM1 := Lib.hid hm1
  clear hown1 hb1 hm1 HEN
  go_wp2_with fail
  have hm2 : Mod [] w1 (w1.alloc (.cells #[.int .u8 1, .int .u8 2, .int .u8 1, .int .u8 0, .int .u8 0] 5)) := (Mod.refl [] w1).alloc _
  have HD1 := Lib.hid (decode_any [1, 2, 1, 0, 0] w1.heap.size _ _ (bs_of_blk (xs := [1, 2, 1, 0, 0]) (Blk.new w1 5 #[.int .u8 1, .int .u8 2, .int .u8 1, .int .u8 0, .int .u8 0]) (by decide)))
  rw [dec_one] at HD1
  refine HD1.out.mono ?_
  rintro e' w2 ⟨pv, ov, rfl, hown1, hown2, _, _, hm3⟩
  obtain ⟨pA, pc, rfl, _, _⟩ := hown1.val
  obtain ⟨oA, oc, rfl, _, _⟩ := hown2.val
  have HO1 := Lib.hid hown1
  have HO2 := Lib.hid hown2
  have HB2 := Lib.hid (HB1.out.mod (hm2.trans hm3) (by simp))
  have HM2 := Lib.hid (HM1.out.trans (hm2.trans hm3))
  clear hown1 hown2 hm2 hm3 HD1 HB1 HM1
  simp only [List.length_nil] at HO1 HO2 ⊢
  go_wp2_with ((with_reducible refine wpList_store_node (au := 2) (cl := 1) (pv := .slice pA 0 pc) (ov := .slice oA 0 oc) _ _ rfl ?hgd ?hx ?hy (Blk.new _ _ _) ?hold ?hp ?hv ?_); (case hgd => exact rfl); (case hx => exact rfl); (case hy => exact rfl); (case hold => exact rfl); (case hp => exact rfl); (case hv => exact rfl); intro w3 hb3 hm3; have hm4 : Mod [] w2 w3 := ((Mod.refl [] w2).alloc _).then hm3 (by simp); have HN3 := Lib.hid hb3; have HM3 := Lib.hid (HM2.out.trans hm4); have HB3 := Lib.hid (HB2.out.mod hm4 (by simp)); have HP3 := Lib.hid (HO1.out.mod hm4 (by simp)); have HO3 := Lib.hid (HO2.out.mod hm4 (by simp)); clear hb3 hm3 hm4)
  have HA3 : Hid (AW w w2.heap.size g1 (.slice A1 5 c1) (.slice pA 0 pc) (.slice oA 0 oc) w3) := Lib.hid ⟨HN3.out, HB3.out, HP3.out, HO3.out, HM3.out⟩
  obtain ⟨q, hq⟩ : ∃ q, w2.heap.size = q := ⟨_, rfl⟩
  rw [hq] at HA3
  rw [hq]
  clear HO1 HO2 HB2 HM2 HN3 HM3 HB3 HP3 HO3 hq
  have hm4 : Mod [] w3 (w3.alloc (.cells #[.int .u8 1, .int .u8 9] 5)) := (Mod.refl [] w3).alloc _
  have HD2 := Lib.hid (decode_any [1, 9] w3.heap.size _ _ (bs_of_blk (xs := [1, 9]) (Blk.new w3 5 #[.int .u8 1, .int .u8 9]) (by decide)))
  rw [dec_nine] at HD2
  refine HD2.out.mono ?_
  rintro e' w4 ⟨b, rfl, hbad, hm5, _⟩
  have HA4 := Lib.hid (HA3.out.mod (hm4.trans hm5))
  have HBD := Lib.hid hbad
  clear hbad hm4 hm5 HD2 HA3
  go_wp2_with ((with_reducible refine wpList_store_node (au := 0) (cl := 0) (pv := .slice none 0 0) (ov := .slice none 0 0) _ _ rfl ?hgd ?hx ?hy (Blk.new _ _ _) ?hold ?hp ?hv ?_); (case hgd => exact rfl); (case hx => exact rfl); (case hy => exact rfl); (case hold => exact rfl); (case hp => exact rfl); (case hv => exact rfl); intro w5 hb5 hm5; have hm6 : Mod [] w4 w5 := ((Mod.refl [] w4).alloc _).then hm5 (by simp); have HA5 := Lib.hid (HA4.out.mod hm6); have HBD5 := Lib.hid (Blk.mod HBD.out hm6 (by simp)); clear hb5 hm5 hm6)
  have HTO := Lib.hid (told_bad w5 b 50 1 HBD5.out (by decide))
  refine HTO.out.mono ?_
  rintro e' w6 ⟨rfl, hm6⟩
  have HA6 := Lib.hid (HA5.out.mod hm6)
  clear hm6 HA4 HA5 HBD HBD5 HTO
  unfold errV
  go_upto_region 5 with fail
  have hm7 : Mod [] w6 (w6.alloc (.cells #[.int .i64 50, .int .i64 1] 36)) := (Mod.refl [] w6).alloc _
  have HA7 := Lib.hid (HA6.out.mod hm7)
  have HE7 := Lib.hid (Blk.new w6 36 #[.int .i64 50, .int .i64 1])
  obtain ⟨w7, hw7⟩ : ∃ w7, w6.alloc (.cells #[.int .i64 50, .int .i64 1] 36) = w7 := ⟨_, rfl⟩
  obtain ⟨z, hz⟩ : ∃ z, w6.heap.size = z := ⟨_, rfl⟩
  rw [hw7] at HA7 HE7
  rw [hz] at HE7
  rw [hw7, hz]
  clear hw7 hz hm7 HA6
  have hcv := run_str HA7.out.2.1
  obtain ⟨d0, d1, d2, d3, HC⟩ := HA7.out.1.open_
  have e0 := HE7.out.cell 0
  have e1 := HE7.out.cell 1
  have HCK : Hid (Calls Try.prog 15 #[nodeV 2 1 (.slice pA 0 pc) (.slice oA 0 oc)] w7 fun e w' => e = .returned (.int .i64 0) ∧ Mod [] w7 w') := Lib.hid (by
    obtain ⟨gp, hgp, _⟩ := HA7.out.2.2.1.hs
    obtain ⟨go, hgo, _⟩ := HA7.out.2.2.2.1.os
    have h := nodeCheck_any ⟨2, 1, [], []⟩ gp go _ _ w7 ⟨hgp, hgo⟩
    rw [show checkNode ⟨2, 1, [], []⟩ = 0 by decide] at h
    exact h)
  go_wp2_with (first | ((with_reducible refine wpList_load_node _ rfl ?hgd HC.out ?hx ?_); (case hgd => exact rfl); (case hx => exact rfl)))
  refine HCK.out.mono ?_
  rintro e' w8 ⟨rfl, hm8⟩
  go_wp2_with fail
  go_ret
  exact ⟨rfl, HA7.out.2.2.2.2.trans hm8⟩
end Go.Proofs.Ytlpjeckhejbkkaa
end
