import Derived.Test.YtlpjeckhejbkkaaNRise
import Derived.Test.YtlpjeckhejbkkaaNEnd
set_option linter.unusedVariables false
set_option linter.unusedSimpArgs false
set_option maxRecDepth 20000
set_option maxHeartbeats 400000
namespace Go.Proofs.Ytlpjeckhejbkkaa
open Go.RowKit

/-! ### transactions in memory -/
abbrev nodeL (au cl : Int) (pv ov : Value) : List Value := [.int .i64 au, .int .i64 cl, pv, ov]
abbrev nodeV (au cl : Int) (pv ov : Value) : Value := .agg (nodeL au cl pv ov).toArray
theorem rtNode : RowT Try.prog 26 4 := ⟨_, Try.underlying26, rfl, by kernel_rfl⟩
theorem infoHash : (Try.prog.info? 46).map (fun i => (i.zero, i.size, i.bytes)) = some (some GHash.zero.val, 32, 32) := by kernel_rfl
theorem etHashes : ElemT Try.prog 23 46 32 32 := elemT_of Try.underlying23 infoHash (by decide) (by decide)
/-- a transaction in a variable of its own -/
def NodB (w : World) (q : Nat) (au cl : Int) (pv ov : Value) : Prop := Blk w q 26 (nodeL au cl pv ov).toArray
theorem NodB.open_ {w : World} {q : Nat} {au cl : Int} {pv ov : Value} (h : NodB w q au cl pv ov) :
    w.cell? ⟨q, 0, none⟩ = some (.int .i64 au) ∧ w.cell? ⟨q, 1, none⟩ = some (.int .i64 cl) ∧ w.cell? ⟨q, 2, none⟩ = some pv ∧ w.cell? ⟨q, 3, none⟩ = some ov ∧ Hid (CellsAt w q 0 (nodeL au cl pv ov)) :=
  ⟨h.cell 0, h.cell 1, h.cell 2, h.cell 3, Lib.hid (CellsAt.of_blk h)⟩
theorem NodB.frozen {w : World} {q : Nat} {au cl : Int} {pv ov : Value} (h : NodB w q au cl pv ov) (i : Nat) : w.frozen? ⟨q, i, none⟩ = false := Blk.frozen h i
theorem NodB.mod {S : List Nat} {w w' : World} {q : Nat} {au cl : Int} {pv ov : Value} (h : NodB w q au cl pv ov) (hm : Mod S w w') (hq : q ∉ S) : NodB w' q au cl pv ov := Blk.mod h hm hq
theorem NodB.lt {w : World} {q : Nat} {au cl : Int} {pv ov : Value} (h : NodB w q au cl pv ov) : q < w.heap.size := Blk.lt h
section
variable {ops : Array Oper} {rest : List Oper} {op : Oper} {a : Act} {w : World} {Q : Exit → Act → World → Prop}
theorem wpList_box_node (x : Operand) (ho : op.op = .box 26 x) (hgd : Region.wanted op (yielded ops a.tmps) = true) {au cl : Int} {pv ov : Value} (hx : a.eval x = nodeV au cl pv ov)
    (h : ∀ q w1, NodB w1 q au cl pv ov → Mod [] w w1 → w.heap.size ≤ q → q < w1.heap.size → wpList Try.prog ops Q rest (a.put op.dst (.pointer (some ⟨q, 0, none⟩))) w1) : wpList Try.prog ops Q (op :: rest) a w :=
  wpList_box x ho hgd hx h
theorem wpList_load_node (x : Operand) (ho : op.op = .load 26 x) (hgd : Region.wanted op (yielded ops a.tmps) = true) {b k : Nat} {au cl : Int} {pv ov : Value} (H : CellsAt w b k (nodeL au cl pv ov)) (hx : a.eval x = .pointer (some ⟨b, k, none⟩))
    (h : wpList Try.prog ops Q rest (a.put op.dst (nodeV au cl pv ov)) w) : wpList Try.prog ops Q (op :: rest) a w :=
  wpList_load_cells rtNode x ho hgd hx rfl H h
end
section
variable {ops : Array Oper} {rest : List Oper} {op : Oper} {a : Act} {w : World} {Q : Exit → Act → World → Prop}
theorem wpList_store_hashN (x y : Operand) (ho : op.op = .store 46 x y) (hgd : Region.wanted op (yielded ops a.tmps) = true) {g : Nat} {o : GHash} {old : Array Value} (hx : a.eval x = .pointer (some ⟨g, 0, none⟩)) (hy : a.eval y = o.val) (hb : Blk w g 46 old) (hold : old.size = 32)
    (h : ∀ w', Blk w' g 46 o.cells.toArray → Mod [g] w w' → wpList Try.prog ops Q rest (a.put op.dst undef) w') : wpList Try.prog ops Q (op :: rest) a w :=
  wpList_store_blk rtHash x y ho hgd hx hy hb o.cells_length hold o.one h
end
/-- a transaction: its lists in memory -/
structure NodR (w : World) (n : GNode) (gp go : Nat) (pv ov : Value) : Prop where
  ps : HS w gp pv n.parents
  os : OS w go ov n.ops
theorem NodR.mod {S : List Nat} {w w' : World} {n : GNode} {gp go : Nat} {pv ov : Value} (h : NodR w n gp go pv ov) (hm : Mod S w w') (hp : 0 < n.parents.length → gp ∉ S) (ho : 0 < n.ops.length → go ∉ S) : NodR w' n gp go pv ov :=
  ⟨h.ps.mod hm hp, h.os.mod hm ho⟩
theorem NodR.mod0 {w w' : World} {n : GNode} {gp go : Nat} {pv ov : Value} (h : NodR w n gp go pv ov) (hm : Mod [] w w') : NodR w' n gp go pv ov := h.mod hm (by simp) (by simp)
/-- what is wrong with a transaction, as the walk asks -/
def clockBad (cl : Int) (k : Nat) : Bool := !((cl == 1) == ((k : Int) == 0))
theorem clockBad_iff (cl : Int) (k : Nat) : clockBad cl k = true ↔ decide (cl = 1) ≠ decide (k = 0) := by
  unfold clockBad
  have e1 : (cl == 1) = decide (cl = 1) := rfl
  have e2 : ((k : Int) == 0) = decide (k = 0) := by rw [Bool.eq_iff_iff]; simp
  rw [e1, e2]
  cases decide (cl = 1) <;> cases decide (k = 0) <;> simp
theorem cn50 {n : GNode} (h : n.author < 1 ∨ 8 < n.author) : ((50 : Int)) = checkNode n := by unfold checkNode; rw [if_pos h]; rfl
theorem cn51 {n : GNode} (h : 1 ≤ n.author ∧ n.author ≤ 8) (h2 : (n.clock < 1 ∨ 4096 < n.clock) ∨ clockBad n.clock n.parents.length = true) : ((51 : Int)) = checkNode n := by
  unfold checkNode; rw [if_neg (by omega), if_pos (by rw [← clockBad_iff, ← or_assoc]; exact h2)]; rfl
theorem cn52 {n : GNode} (h : 1 ≤ n.author ∧ n.author ≤ 8) (h2 : (1 ≤ n.clock ∧ n.clock ≤ 4096) ∧ clockBad n.clock n.parents.length = false) (h3 : 64 < (n.parents.length : Int) ∨ (!risingFrom [] n.parents) = true) : ((52 : Int)) = checkNode n := by
  unfold checkNode
  rw [if_neg (by omega), if_neg (by rw [← clockBad_iff, h2.2]; simp; omega), if_pos (by rw [Bool.not_eq_true'] at h3; exact h3.imp (by omega) id)]
  rfl
theorem cnops {n : GNode} (h : 1 ≤ n.author ∧ n.author ≤ 8) (h2 : (1 ≤ n.clock ∧ n.clock ≤ 4096) ∧ clockBad n.clock n.parents.length = false) (h3 : (n.parents.length : Int) ≤ 64 ∧ (!risingFrom [] n.parents) = false) : (((checkOps n.ops).1 : Nat) : Int) = checkNode n := by
  unfold checkNode
  rw [if_neg (by omega), if_neg (by rw [← clockBad_iff, h2.2]; simp; omega), if_neg (by have := h3.2; simp at this; rw [this]; simp; omega)]
theorem nodeCheck_any (n : GNode) (gp go : Nat) (pv ov : Value) (w : World) (h : NodR w n gp go pv ov) :
    Calls Try.prog 15 #[nodeV n.author n.clock pv ov] w fun e w' => e = .returned (.int .i64 (checkNode n)) ∧ Mod [] w w' := by
  obtain ⟨hp, hos⟩ := h
  obtain ⟨A, cap, rfl, hc1, hc2⟩ := hp.val
  unfold maxLen at hc2
  have HP := Lib.hid hp; clear hp
  have HO := Lib.hid hos; clear hos
  obtain ⟨au, cl, ps, os⟩ := n
  dsimp only at *
  have h50 := @cn50 ⟨au, cl, ps, os⟩
  have h51 := @cn51 ⟨au, cl, ps, os⟩
  have h52 := @cn52 ⟨au, cl, ps, os⟩
  have hops := @cnops ⟨au, cl, ps, os⟩
  dsimp only at h50 h51 h52 hops
  generalize checkNode ⟨au, cl, ps, os⟩ = c at *
  unfold clockBad at h51 h52 hops
  have H50 := Lib.hid h50
  have H51 := Lib.hid h51
  have H52 := Lib.hid h52
  have HOPS := Lib.hid hops
  clear h50 h51 h52 hops
  go_enter Try.func15, Try.ntmps15
  go_wp2_with (first | ((with_reducible refine wpList_box_node _ rfl ?hgd (au := au) (cl := cl) (pv := .slice A ps.length cap) (ov := ov) ?hx ?_); (case hgd => exact rfl); (case hx => exact rfl); intro q1 w1 hv1 hm1 hq1 hl1; have HV1 := Lib.hid hv1; obtain ⟨c0, c1, c2, c3, HC⟩ := hv1.open_; have HM1 := Lib.hid hm1; clear hv1 hm1) | (go_at_call 31; refine (rising_any ps gp _ w1 (HP.out.mod HM1.out (by simp))).mono ?_; rintro e' w2 ⟨rfl, hm2⟩; have HM2 := Lib.hid (HM1.out.trans hm2); obtain ⟨d0, d1, d2, d3, HD⟩ := (HV1.out.mod hm2 (by simp)).open_; clear hm2))
  all_goals try (go_ret; refine ⟨ret_int ?_, HM1.out⟩; first | exact H50.out (by omega) | exact H51.out (by assumption) (by assumption) | exact H51.out (by assumption) (.inl (by omega)) | exact H52.out (by assumption) (by assumption) (.inl (by assumption)))
  all_goals try (go_ret; refine ⟨ret_int ?_, HM2.out⟩; exact H52.out (by assumption) (by assumption) (by assumption))
  refine (check_any os go ov w2 (HO.out.mod HM2.out (by simp))).mono ?_
  rintro e' w3 ⟨rfl, hm3⟩
  go_wp2_with fail
  go_ret
  exact ⟨ret_int (HOPS.out (by assumption) (by assumption) (by assumption)), HM2.out.trans hm3⟩
end Go.Proofs.Ytlpjeckhejbkkaa
