import Derived.Test.YtlpjeckhejbkkaaSpec
import Derived.Test.YtlpjeckhejbkkaaRows
import Derived.RowKit
set_option linter.unusedVariables false
set_option linter.unusedSimpArgs false
set_option maxRecDepth 20000
set_option maxHeartbeats 400000
namespace Go.Proofs.Ytlpjeckhejbkkaa
open Go.RowKit

theorem elemT_of {P : Program} {t e : TypeId} {z : Value} {sz bytes : Nat} (ht : P.underlying t = some (.slice e)) (hi : (P.info? e).map (fun i => (i.zero, i.size, i.bytes)) = some (some z, sz, bytes))
    (hz : z.cells.size = sz) (h0 : 0 < sz) : ElemT P t e sz bytes := by
  obtain ⟨i, h1, h2, h3, h4⟩ := info_parts hi
  exact ⟨i, z, ht, h1, h2, h3, h4, hz, h0⟩
theorem infoByte : (Try.prog.info? 5).map (fun i => (i.zero, i.size, i.bytes)) = some (some (.int .u8 0), 1, 1) := by kernel_rfl
theorem etBytes : ElemT Try.prog 27 5 1 1 := elemT_of Try.underlying27 infoByte rfl (by decide)
theorem infoOp : (Try.prog.info? 74).map (fun i => (i.zero, i.size, i.bytes)) = some (some GOp.zero.val, 37, 88) := by kernel_rfl
theorem etOps : ElemT Try.prog 24 74 37 88 := elemT_of Try.underlying24 infoOp (by decide) (by decide)

theorem rtHash : RowT Try.prog 46 32 := ⟨_, Try.underlying46, rfl, by kernel_rfl⟩
theorem rtIdent : RowT Try.prog 72 33 := ⟨_, Try.underlying72, rfl, by kernel_rfl⟩
theorem rtOp : RowT Try.prog 74 37 := ⟨_, Try.underlying74, rfl, by kernel_rfl⟩
theorem GHash.one (h : GHash) : ∀ u ∈ h.cells, u.oneCell' = true := by
  intro u hu
  obtain ⟨x, _, rfl⟩ := List.mem_map.1 hu
  rfl
theorem GIdent.one (a : GIdent) : ∀ u ∈ a.cells, u.oneCell' = true := by
  intro u hu
  rcases List.mem_append.1 hu with hu | hu
  · exact a.node.one u hu
  · simp only [List.mem_singleton] at hu; subst hu; rfl
theorem GOp.one (o : GOp) : ∀ u ∈ o.cells, u.oneCell' = true := by
  intro u hu
  simp only [GOp.cells, List.mem_cons] at hu
  rcases hu with rfl | rfl | rfl | rfl | hu
  · rfl
  · rfl
  · rfl
  · rfl
  · exact o.at_.one u hu

theorem run_arrayAt_hash (a : Option Addr) (len cap : Nat) (h : 32 ≤ len) (w : World) : (Instr.arrayAt 46 (.slice a len cap)).run Try.prog w = .ok (.pointer a) w := by
  have h' : ¬ len < 32 := by omega
  simp [Instr.arrayAt, run_underlying Try.underlying46, h']

/-! ### bytes -/
abbrev BS (w : World) (g : Nat) (v : Value) (xs : Bytes) : Prop := RS w 1 g v xs.length (xs.map bv)
def OwnB (w : World) (v : Value) (xs : Bytes) : Prop := w.ownsRow 0 5 1 v xs.length (xs.map bv)
theorem OwnB.nil (w : World) : OwnB w (.slice none 0 0) [] := own_nil w _ _
theorem OwnB.mod {w w' : World} {v : Value} {xs : Bytes} {S : List Nat} (h : OwnB w v xs) (hm : Mod S w w') (hd : ∀ b ∈ blks v, b ∉ S) : OwnB w' v xs := own_mod h hm hd
theorem OwnB.lt {w : World} {v : Value} {xs : Bytes} (h : OwnB w v xs) : ∀ b ∈ blks v, b < w.heap.size := own_lt h
theorem OwnB.bs {w : World} {v : Value} {xs : Bytes} (h : OwnB w v xs) : ∃ g, BS w g v xs ∧ (0 < xs.length → g ∈ blks v) := by
  obtain ⟨g, h1, h2⟩ := RS.of_own h
  exact ⟨g, h1, fun h0 => by simp [blks, h2 h0]⟩
theorem OwnB.val {w : World} {v : Value} {xs : Bytes} (h : OwnB w v xs) : ∃ A cap, v = .slice A xs.length cap ∧ xs.length ≤ cap ∧ cap ≤ maxLen := own_slice h
theorem bv_one (xs : Bytes) : ∀ u ∈ xs.map bv, u.oneCell' = true := by
  intro u hu
  obtain ⟨x, _, rfl⟩ := List.mem_map.1 hu
  rfl
theorem wpList_append_bytes {ops : Array Oper} {rest : List Oper} {o : Oper} {a : Act} {Q : Exit → Act → World → Prop} {w : World} (hgd : Region.wanted o (yielded ops a.tmps) = true) (s x : Operand)
    (ho : o.op = .call { callee := .builtin .append, args := #[s, x], argTypes := #[27, 27] })
    {v : Value} {xs : Bytes} (hown : OwnB w v xs) (hs : a.eval s = v) {g : Nat} {sv : Value} {ys : Bytes} (hr : BS w g sv ys) (hx : a.eval x = sv)
    (h : ∀ A' n' cap' w', OwnB w' (.slice A' n' cap') (xs ++ ys) → Hid (n' = xs.length + ys.length) → Mod (blks v) w w' → Hid (∀ b ∈ blks (.slice A' n' cap'), b ∈ blks v ∨ b = w.heap.size) → wpList Try.prog ops Q rest (a.put o.dst (.slice A' n' cap')) w') (hz : xs.length + ys.length ≤ 200000000000000) :
    wpList Try.prog ops Q (o :: rest) a w := by
  refine wpList_append_rs etBytes hgd s x ho hown hs hr hx (bv_one ys) (by unfold maxLen; omega) (by omega) fun A' cap' w' h1 h2 h3 => h A' _ cap' w' ?_ (Lib.hid rfl) h2 (Lib.hid h3)
  unfold OwnB
  rw [List.length_append, List.map_append]
  exact h1
theorem step_append_bytes {ops : Array Oper} {o : Oper} {a : Act} {K : Act → World → Prop} {Q : Exit → Act → World → Prop} {G : Prop} {w : World} (hgd : Region.wanted o (yielded ops a.tmps) = true) (s x : Operand)
    (ho : o.op = .call { callee := .builtin .append, args := #[s, x], argTypes := #[27, 27] })
    {v : Value} {xs : Bytes} (hown : OwnB w v xs) (hs : a.eval s = v) {g : Nat} {sv : Value} {ys : Bytes} (hr : BS w g sv ys) (hx : a.eval x = sv)
    (h : ∀ A' n' cap' w', OwnB w' (.slice A' n' cap') (xs ++ ys) → Hid (n' = xs.length + ys.length) → Mod (blks v) w w' → Hid (∀ b ∈ blks (.slice A' n' cap'), b ∈ blks v ∨ b = w.heap.size) → K (a.put o.dst (.slice A' n' cap')) w') (hz : xs.length + ys.length ≤ 200000000000000) :
    if Region.wanted o (yielded ops a.tmps) = true then Oper.wp Try.prog o a w K Q else G := by
  refine step_append_src etBytes hgd s x ho hown hs (Src.of_rs w Try.underlying27 hr (bv_one ys)) hx (by unfold maxLen; omega) (by omega) fun A' cap' w' h1 h2 h3 => h A' _ cap' w' ?_ (Lib.hid rfl) h2 (Lib.hid h3)
  unfold OwnB
  rw [List.length_append, List.map_append]
  exact h1
theorem wpList_append_string {ops : Array Oper} {rest : List Oper} {o : Oper} {a : Act} {Q : Exit → Act → World → Prop} {w : World} (hgd : Region.wanted o (yielded ops a.tmps) = true) (s x : Operand)
    (ho : o.op = .call { callee := .builtin .append, args := #[s, x], argTypes := #[27, 9] })
    {v : Value} {xs : Bytes} (hown : OwnB w v xs) (hs : a.eval s = v) {str : ByteArray} (hx : a.eval x = .string str)
    (h : ∀ A' n' cap' w', OwnB w' (.slice A' n' cap') (xs ++ str.data.toList) → Hid (n' = xs.length + str.size) → Mod (blks v) w w' → Hid (∀ b ∈ blks (.slice A' n' cap'), b ∈ blks v ∨ b = w.heap.size) → wpList Try.prog ops Q rest (a.put o.dst (.slice A' n' cap')) w') (hz : xs.length + str.size ≤ 200000000000000) :
    wpList Try.prog ops Q (o :: rest) a w := by
  refine wpList_append_src etBytes hgd s x ho hown hs (Src.ofString w Try.underlying9 str) hx (by unfold maxLen; omega) (by omega) fun A' cap' w' h1 h2 h3 => h A' _ cap' w' ?_ (Lib.hid rfl) h2 (Lib.hid h3)
  unfold OwnB
  have e : (xs ++ str.data.toList).length = xs.length + str.size := by rw [List.length_append, Array.length_toList]; rfl
  rw [e, List.map_append]
  exact h1
theorem foldl_push (xs : Bytes) : ∀ acc : ByteArray, (xs.map fun x : UInt8 => (x.toNat : Int)).foldl (fun r n => r.push (UInt8.ofNat n.toNat)) acc = ⟨acc.data ++ xs.toArray⟩ := by
  induction xs with
  | nil => intro acc; simp
  | cons x xs ih =>
    intro acc
    rw [List.map_cons, List.foldl_cons, ih]
    apply ByteArray.ext
    simp [ByteArray.push]
/-- string(b) -/
theorem run_str {w : World} {g : Nat} {v : Value} {xs : Bytes} (h : BS w g v xs) : (convert 27 9 v).run Try.prog w = .ok (.string ⟨xs.toArray⟩) w := by
  obtain ⟨A, cap, rfl, _, _⟩ := h.val
  rw [run_convert_bytes_string w 27 9 5 A _ cap Try.underlying27 Try.underlying5 Try.underlying9]
  have hnil : xs = [] → (Conv.bytesToString (.slice none xs.length cap)).run Try.prog w = .ok (.string ⟨xs.toArray⟩) w := by
    rintro rfl
    simp [Conv.bytesToString]
    rfl
  rcases A with _ | a
  · rcases xs with _ | ⟨x, xs⟩
    · exact hnil rfl
    · obtain ⟨_, _, hv, _⟩ := h.at_ (by simp)
      cases hv
  · have hl : (loadCells a xs.length).run Try.prog w = .ok ((xs.map fun x : UInt8 => (x.toNat : Int)).map (Value.int .u8)).toArray w := by
      have := run_loadCells_list (P := Try.prog) w a (xs.map bv) (fun j u hu => by
        have h0 : 0 < xs.length := by
          rcases xs with _ | ⟨x, xs⟩
          · simp at hu
          · simp
        obtain ⟨off, _, hv, _, _, _, hcell⟩ := h.at_ h0
        injection hv with hv _ _
        injection hv with hv
        subst hv
        have := hcell j u hu
        unfold Addr.add
        split
        · rename_i e; subst e; simpa using this
        · exact this)
      rw [List.length_map] at this
      rw [this, List.map_map]
      rfl
    rw [run_bytesToString w a _ cap _ hl, foldl_push]
    simp
/-- one cell in a block of its own -/
theorem RS.one (w : World) (t : TypeId) (v : Value) : RS (w.alloc (.cells #[v] t)) 1 w.heap.size (.slice (some ⟨w.heap.size, 0, none⟩) 1 1) 1 [v] := by
  refine ⟨rfl, _, 1, rfl, Nat.le_refl _, by decide, fun _ => ⟨0, rfl, by simp, fun i u hu => ?_⟩⟩
  match i, hu with
  | 0, hu =>
    simp only [List.getElem?_cons_zero, Option.some.injEq] at hu
    subst hu
    exact (Blk.new w t #[v]).cell 0
theorem bs_one (w : World) (t : TypeId) {xi : Int} {x : UInt8} (hx : xi = x.toNat) : BS (w.alloc (.cells #[.int .u8 xi] t)) w.heap.size (.slice (some ⟨w.heap.size, 0, none⟩) 1 1) [x] := by
  subst hx
  exact RS.one w t (bv x)
end Go.Proofs.Ytlpjeckhejbkkaa
