import Derived.Test.YtlpjeckhejbkkaaChk
set_option linter.unusedVariables false
set_option linter.unusedSimpArgs false
set_option maxRecDepth 20000
set_option maxHeartbeats 400000
namespace Go.Proofs.Ytlpjeckhejbkkaa
open Go.RowKit

theorem flat_take (l : List GOp) (j : Nat) : (l.flatMap GOp.cells).take (j * 37) = (l.take j).flatMap GOp.cells := by
  induction l generalizing j with
  | nil => simp
  | cons o l ih =>
    cases j with
    | zero => simp
    | succ j =>
      rw [List.flatMap_cons, List.take_succ_cons, List.flatMap_cons, List.take_append, o.cells_length, List.take_of_length_le (by rw [o.cells_length]; omega)]
      congr 1
      rw [← ih j]
      congr 1
      omega
theorem OS.take {w : World} {g cap : Nat} {A : Option Addr} {l : List GOp} (h : OS w g (.slice A l.length cap) l) (j : Nat) (hj : j ≤ l.length) : OS w g (.slice A j cap) (l.take j) := by
  obtain ⟨_, _, hv, hc, hm⟩ := h.val
  injection hv with _ _ hv
  subst hv
  have := h.cut (lo := 0) (n := j) (c' := cap) (A' := A) (by omega) (by omega) hm (fun h0 => by cases A <;> simp [Addr.add])
  rw [Nat.zero_mul, List.drop_zero, flat_take] at this
  have e : (l.take j).length = j := by simp; omega
  unfold OS
  rw [e]
  exact this
theorem checkFrom_drop (l : List GOp) (j : Nat) (hj : j < l.length) (hw : wrongOp (l.take j) l[j] = 0) : checkFrom (l.take j) (l.drop j) = checkFrom (l.take (j + 1)) (l.drop (j + 1)) := by
  rw [List.drop_eq_getElem_cons hj, checkFrom, if_pos hw, List.take_succ_eq_append_getElem hj]
theorem checkFrom_bad (l : List GOp) (j : Nat) (hj : j < l.length) (hw : wrongOp (l.take j) l[j] ≠ 0) : checkFrom (l.take j) (l.drop j) = (wrongOp (l.take j) l[j], j) := by
  rw [List.drop_eq_getElem_cons hj, checkFrom, if_neg hw, List.length_take, Nat.min_eq_left (by omega)]
def SO (w : World) (q : Nat) (o : GOp) (W : World) : Prop := OpIn W q 0 ∧ opOf W q 0 = o ∧ Mod [] w W
theorem SO.step {w W W' : World} {q : Nat} {o : GOp} (h : OpIn W q 0 ∧ opOf W q 0 = o ∧ Mod [] w W) (hm : Mod [] W W') : OpIn W' q 0 ∧ opOf W' q 0 = o ∧ Mod [] w W' := by
  obtain ⟨⟨p, hp⟩, h2, h3⟩ := h
  rw [hp.in_.2] at h2
  subst h2
  have := (op_in hp hm (by simp)).in_
  exact ⟨this.1, this.2, h3.trans hm⟩
theorem OS.keep {w W : World} {q g : Nat} {o : GOp} {v : Value} {l : List GOp} (h : OS w g v l) (hS : OpIn W q 0 ∧ opOf W q 0 = o ∧ Mod [] w W) : OS W g v l := h.mod hS.2.2 (by simp)
theorem ret_chk {a b a' b' : Int} {k1 k2 : IntKind} (ha : a = a') (hb : b = b') : Ending.returned (.tuple #[.int k1 a, .int k2 b]) = .returned (.tuple #[.int k1 a', .int k2 b']) := by rw [ha, hb]
theorem check_any (l : List GOp) (g : Nat) (v : Value) (w : World) (hs : OS w g v l) :
    Calls Try.prog 32 #[v] w fun e w' => e = .returned (.tuple #[.int .i64 (checkOps l).1, .int .i64 (checkOps l).2]) ∧ Mod [] w w' := by
  obtain ⟨A, cap, rfl, hc, hm⟩ := hs.val
  have HS := Lib.hid hs; clear hs
  by_cases hbig : 1024 < l.length
  · have HE : Hid (checkOps l = (3, 0)) := Lib.hid (by rw [checkOps, if_pos hbig])
    go_enter Try.func32, Try.ntmps32
    go_wp2
    go_ret2
    exact ⟨ret_chk (by rw [HE.out]; rfl) (by rw [HE.out]; rfl), Mod.refl _ _⟩
  · have HE : Hid (checkOps l = checkFrom [] l) := Lib.hid (by rw [checkOps, if_neg hbig])
    go_enter Try.func32, Try.ntmps32
    go_wp2
    go_loopw [12] (fun s wr => ∃ j : Nat, s = .int .i64 (j : Int) ∧ j ≤ l.length ∧ Hid (OS wr g (.slice A l.length cap) l) ∧ Hid (Mod [] w wr) ∧ Hid (checkFrom (l.take j) (l.drop j) = checkFrom [] l)) (fun s _ => l.length - (intOf s).toNat)
    case atStart => exact ⟨0, rfl, by omega, HS, Lib.hid (Mod.refl _ _), Lib.hid (by simp)⟩
    case round =>
      obtain ⟨j, rfl, hj, HO, HM, HC⟩ := hrel
      by_cases hjl : j < l.length
      · obtain ⟨off, cap', hv', _, _, hgl, hit⟩ := HO.out.item (by omega)
        injection hv' with hA _ hcap
        subst hA
        subst hcap
        have HJ := Lib.hid (hit j hjl)
        clear hit hgl
        go_wp2_with (first | ((with_reducible refine wpList_load_op _ rfl ?hgd HJ.out ?hx ?_); (case hgd => exact rfl); (case hx => exact rfl)) | ((with_reducible refine wpList_store_op (o := l[j]) _ _ rfl ?hgd ?hx ?hy (Blk.new _ _ _) ?hold ?_); (case hgd => exact rfl); (case hx => exact rfl); (case hy => exact rfl); (case hold => exact rfl); intro w2 hv2 hm2; have hm3 := ((Mod.refl [] wr).alloc _).then hm2 (by simp); have HV : Hid (OpAt w2 wr.heap.size 0 l[j]) := Lib.hid (CellsAt.of_blk hv2); have HO2 : Hid (OS w2 g _ l) := Lib.hid (HO.out.mod hm3 (by simp)); have HM2 := Lib.hid (HM.out.trans hm3); clear hv2 hm2 hm3))
        have hb1 : (0 : Int) ≤ (j : Int) := by omega
        have hb2 : (j : Int) ≤ (cap : Int) := by omega
        have hov := (op_in HV.out (Mod.refl [] w2).drew (by simp)).in_
        have HT : Hid (OS w2 g (.slice (some ⟨g, off, none⟩) j cap) (l.take j)) := Lib.hid (HO2.out.take j hj)
        clear hm HS HO
        go_region_held3 (fun W => OpIn W wr.heap.size 0 ∧ opOf W wr.heap.size 0 = l[j] ∧ Mod [] w2 W) ((first | exact ⟨hov.1, hov.2, (Mod.refl [] w2).drew⟩ | exact SO.step (by assumption) (by assumption) | assumption)) ((first | (go_at_call 57; refine (wrong_any (l.take j) l[j] g _ _ (OS.keep HT.out (by assumption))).mono ?_; rintro e' w5 ⟨rfl, hm5⟩)))
        have hS5 : OpIn w5 wr.heap.size 0 ∧ opOf w5 wr.heap.size 0 = l[j] ∧ Mod [] w2 w5 := by assumption
        have HM5 := Lib.hid (HM2.out.trans hS5.2.2)
        have HO5 : Hid (OS w5 g _ l) := Lib.hid (HO2.out.mod hS5.2.2 (by simp))
        obtain ⟨x, hx⟩ : ∃ x, wrongOp (l.take j) l[j] = x := ⟨_, rfl⟩
        have HX := Lib.hid hx
        rw [hx]
        clear hx hS5
        by_cases hx0 : x = 0
        · subst hx0
          go_wp2
          go_roundw
          case rel => exact ⟨j + 1, by go_num, by omega, HO5, HM5, Lib.hid ((checkFrom_drop l j hjl HX.out).symm.trans HC.out)⟩
          case measure => simp [intOf]; omega
        · have hxi : ¬ ((x : Int) = 0) := by omega
          have HR : Hid (checkOps l = (x, j)) := Lib.hid (by rw [HE.out, ← HC.out, checkFrom_bad l j hjl (by rw [HX.out]; exact hx0), HX.out])
          go_wp2
          go_ret2
          exact ⟨ret_chk (by rw [HR.out]) (by rw [HR.out]), HM5.out⟩
      · have hje : j = l.length := by omega
        subst hje
        have HR : Hid (checkOps l = (0, 0)) := Lib.hid (by rw [HE.out, ← HC.out]; simp [checkFrom])
        go_wp2
        go_ret2
        exact ⟨ret_chk (by rw [HR.out]; rfl) (by rw [HR.out]; rfl), HM.out⟩
end Go.Proofs.Ytlpjeckhejbkkaa
