import Derived.Test.YtlpjeckhejbkkaaNRd
import Derived.Test.YtlpjeckhejbkkaaGet
set_option linter.unusedVariables false
set_option linter.unusedSimpArgs false
set_option maxRecDepth 20000
set_option maxHeartbeats 3200000
namespace Go.Proofs.Ytlpjeckhejbkkaa
open Go.RowKit

/-! ### a transaction is read -/
def rdTail (xs : Bytes) (au : Int) (cl : Int) (ps : List GHash) (p5 : Nat) : Rd GNode :=
  (rdOps xs p5).bind fun ops p6 => if p6 < xs.length then .bad 23 p6 else .ok ⟨au, cl, ps, ops⟩ p6
def rdNode3 (xs : Bytes) (au : Int) (clock p3 : Nat) : Rd GNode :=
  if clock = 0 then .bad 51 2 else
    (rdNum xs p3 64).bind fun many p4 => if decide (clock = 1) = decide (many = 0) then (rdHashes xs many p4 []).bind (rdTail xs au clock) else .bad 51 2
def rdNode2 (xs : Bytes) (au : UInt8) (p2 : Nat) : Rd GNode :=
  if 1 ≤ au.toNat ∧ au.toNat ≤ 8 then (rdNum xs p2 4096).bind (rdNode3 xs au.toNat) else .bad 50 1
def rdNode1 (xs : Bytes) (form : UInt8) (p1 : Nat) : Rd GNode := if form = 1 then (rdByte xs p1).bind (rdNode2 xs) else .bad 5 0
def rdNodeE (xs : Bytes) : Rd GNode := (rdByte xs 0).bind (rdNode1 xs)
theorem rdNode_E (xs : Bytes) : rdNode xs = if 1048576 < xs.length then .bad 4 1048576 else rdNodeE xs := by
  unfold rdNode
  congr 1
  unfold rdNodeE rdNode0
  rw [Rd.bind_assoc]
  congr 1; funext form p1
  unfold rdNode1
  split
  · rw [Rd.bind_assoc]
    congr 1; funext au p2
    unfold rdNode2
    split
    · rw [Rd.bind_assoc]
      congr 1; funext clock p3
      unfold rdNode3
      split
      · rfl
      · rw [Rd.bind_assoc]
        congr 1; funext many p4
        split
        · rw [Rd.bind_assoc]
          congr 1; funext ps p5
          unfold rdTail
          rw [Rd.bind_assoc]
          rfl
        · rfl
    · rfl
  · rfl
theorem StopP.later {w wr w' : World} {r p why at_ : Nat} {e : Ending} (hm : Mod [p, r] w wr) (h : StopP wr r p why at_ e w') : StopP w r p why at_ e w' := by
  obtain ⟨q, he, hb, hr, hm2, hq⟩ := h
  exact ⟨q, he, hb, hr, hm.trans hm2, Nat.le_trans hm.size hq⟩
def OwnH (w : World) (v : Value) (l : List GHash) : Prop := w.ownsRow 0 46 32 v l.length (l.flatMap GHash.cells)
theorem OwnH.nil (w : World) : OwnH w (.slice none 0 0) [] := own_nil w _ _
theorem OwnH.mod {w w' : World} {v : Value} {l : List GHash} {S : List Nat} (h : OwnH w v l) (hm : Mod S w w') (hd : ∀ b ∈ blks v, b ∉ S) : OwnH w' v l := own_mod h hm hd
theorem OwnH.lt {w : World} {v : Value} {l : List GHash} (h : OwnH w v l) : ∀ b ∈ blks v, b < w.heap.size := own_lt h
theorem OwnH.val {w : World} {v : Value} {l : List GHash} (h : OwnH w v l) : ∃ A cap, v = .slice A l.length cap ∧ l.length ≤ cap ∧ cap ≤ maxLen := own_slice h
theorem OwnH.hs {w : World} {v : Value} {l : List GHash} (h : OwnH w v l) : ∃ g, HS w g v l ∧ (0 < l.length → g ∈ blks v) := by
  obtain ⟨g, h1, h2⟩ := RS.of_own h
  exact ⟨g, h1, fun h0 => by simp [blks, h2 h0]⟩
theorem hashes_one (l : List GHash) : ∀ u ∈ l.flatMap GHash.cells, u.oneCell' = true := by
  intro u hu
  obtain ⟨o, _, ho⟩ := List.mem_flatMap.1 hu
  exact o.one u ho
theorem wpList_append_hashes {ops : Array Oper} {rest : List Oper} {o : Oper} {a : Act} {Q : Exit → Act → World → Prop} {w : World} (hgd : Region.wanted o (yielded ops a.tmps) = true) (s x : Operand)
    (ho : o.op = .call { callee := .builtin .append, args := #[s, x], argTypes := #[23, 23] })
    {v : Value} {xs : List GHash} (hown : OwnH w v xs) (hs : a.eval s = v) {g : Nat} {sv : Value} {ys : List GHash} (hr : HS w g sv ys) (hx : a.eval x = sv)
    (h : ∀ A' n' cap' w', OwnH w' (.slice A' n' cap') (xs ++ ys) → Hid (n' = xs.length + ys.length) → Mod (blks v) w w' → Hid (∀ b ∈ blks (.slice A' n' cap'), b ∈ blks v ∨ b = w.heap.size) → wpList Try.prog ops Q rest (a.put o.dst (.slice A' n' cap')) w') (hz : xs.length + ys.length ≤ 6000000000000) :
    wpList Try.prog ops Q (o :: rest) a w := by
  refine wpList_append_rs etHashes hgd s x ho hown hs hr hx (hashes_one ys) (by unfold maxLen; omega) (by omega) fun A' cap' w' h1 h2 h3 => h A' _ cap' w' ?_ (Lib.hid rfl) h2 (Lib.hid h3)
  unfold OwnH
  rw [List.length_append, List.flatMap_append]
  exact h1
theorem wpList_buildSlice_hash {ops : Array Oper} {rest : List Oper} {op : Oper} {a : Act} {w : World} {Q : Exit → Act → World → Prop} (x : Operand) (ho : op.op = .buildSlice 23 1 #[(0, x)]) (hgd : Region.wanted op (yielded ops a.tmps) = true) {o : GHash} (hx : a.eval x = o.val)
    (h : ∀ g w1, HS w1 g (.slice (some ⟨g, 0, none⟩) 1 1) [o] → Mod [] w w1 → w.heap.size ≤ g → g < w1.heap.size → wpList Try.prog ops Q rest (a.put op.dst (.slice (some ⟨g, 0, none⟩) 1 1)) w1) : wpList Try.prog ops Q (op :: rest) a w :=
  wpList_buildSlice1 etHashes (by omega) x ho hgd (v := o.val) (cs := o.cells) rfl o.cells_length hx fun g w1 h1 _ h2 h3 h4 => h g w1 (by simpa [HS] using h1) h2 h3 h4
theorem wpList_store_node {ops : Array Oper} {rest : List Oper} {op : Oper} {a : Act} {w : World} {Q : Exit → Act → World → Prop} (x y : Operand) (ho : op.op = .store 26 x y) (hgd : Region.wanted op (yielded ops a.tmps) = true) {g : Nat} {au cl : Int} {pv ov : Value} {old : Array Value} (hx : a.eval x = .pointer (some ⟨g, 0, none⟩)) (hy : a.eval y = nodeV au cl pv ov) (hb : Blk w g 26 old) (hold : old.size = 4)
    (hp : pv.oneCell' = true) (hv : ov.oneCell' = true)
    (h : ∀ w', NodB w' g au cl pv ov → Mod [g] w w' → wpList Try.prog ops Q rest (a.put op.dst undef) w') : wpList Try.prog ops Q (op :: rest) a w :=
  wpList_store_blk rtNode x y ho hgd hx hy hb rfl hold (by intro u hu; simp only [nodeL, List.mem_cons, List.mem_nil_iff, or_false] at hu; rcases hu with rfl | rfl | rfl | rfl; rfl; rfl; exact hp; exact hv) h
/-- the state within: the reader, the transaction so far, the result's variable -/
structure NS (w : World) (r p g : Nat) (xs : Bytes) (pos q2 q3 : Nat) (au cl : Int) (pv ov : Value) (wr : World) : Prop where
  rd : RdrB wr r p g xs pos
  nod : NodB wr q3 au cl pv ov
  res : NodB wr q2 0 0 (.slice none 0 0) (.slice none 0 0)
  md : Mod [p, r] w wr
  ne : q2 ≠ q3
  b2 : w.heap.size ≤ q2
  b3 : w.heap.size ≤ q3
  lt : p < w.heap.size ∧ r < w.heap.size ∧ (0 < xs.length → g < w.heap.size)
section
variable {w wr w' : World} {r p g pos pos' q2 q3 : Nat} {xs : Bytes} {au cl : Int} {pv ov : Value}
theorem NS.read (h : NS w r p g xs pos q2 q3 au cl pv ov wr) (hR : RdrB w' r p g xs pos') (hm : Mod [p, r] wr w') : NS w r p g xs pos' q2 q3 au cl pv ov w' :=
  ⟨hR, h.nod.mod hm (by have := h.b3; have := h.lt; simp; omega), h.res.mod hm (by have := h.b2; have := h.lt; simp; omega), h.md.trans hm, h.ne, h.b2, h.b3, h.lt⟩
theorem NS.mod (h : NS w r p g xs pos q2 q3 au cl pv ov wr) {S : List Nat} (hm : Mod S wr w') (hS : ∀ b ∈ S, w.heap.size ≤ b ∧ b ≠ q2 ∧ b ≠ q3) : NS w r p g xs pos q2 q3 au cl pv ov w' :=
  ⟨h.rd.mod hm (fun hb => by have := hS _ hb; have := h.lt; omega) (fun hb => by have := hS _ hb; have := h.lt; omega) (fun h0 hb => by have := hS _ hb; have := h.lt.2.2 h0; omega), h.nod.mod hm (fun hb => (hS _ hb).2.2 rfl), h.res.mod hm (fun hb => (hS _ hb).2.1 rfl), h.md.then hm (fun b hb => .inr (hS b hb).1), h.ne, h.b2, h.b3, h.lt⟩
theorem NS.mod0 (h : NS w r p g xs pos q2 q3 au cl pv ov wr) (hm : Mod [] wr w') : NS w r p g xs pos q2 q3 au cl pv ov w' := h.mod hm (by simp)
theorem NS.put (h : NS w r p g xs pos q2 q3 au cl pv ov wr) {au' cl' : Int} {pv' ov' : Value} (hn : NodB w' q3 au' cl' pv' ov') (hm : Mod [q3] wr w') : NS w r p g xs pos q2 q3 au' cl' pv' ov' w' :=
  ⟨h.rd.mod hm (by have := h.b3; have := h.lt; simp; omega) (by have := h.b3; have := h.lt; simp; omega) (fun h0 => by have := h.b3; have := h.lt.2.2 h0; simp; omega), hn, h.res.mod hm (by simpa using h.ne), h.md.then hm (by have := h.b3; simp; omega), h.ne, h.b2, h.b3, h.lt⟩
end
theorem NodB.set1 {w : World} {q : Nat} {au cl cl' : Int} {pv ov : Value} (h : NodB w q au cl pv ov) : NodB (w.setCell ⟨q, 1, none⟩ (.int .i64 cl')) q au cl' pv ov := Blk.set_ h 1 _
theorem NodB.set2 {w : World} {q : Nat} {au cl : Int} {pv pv' ov : Value} (h : NodB w q au cl pv ov) : NodB (w.setCell ⟨q, 2, none⟩ pv') q au cl pv' ov := Blk.set_ h 2 _
theorem NodB.set3 {w : World} {q : Nat} {au cl : Int} {pv ov ov' : Value} (h : NodB w q au cl pv ov) : NodB (w.setCell ⟨q, 3, none⟩ ov') q au cl pv ov' := Blk.set_ h 3 _
end Go.Proofs.Ytlpjeckhejbkkaa
