import Derived.Test.YtlpjeckhejbkkaaTypes
set_option linter.unusedVariables false
set_option linter.unusedSimpArgs false
set_option maxRecDepth 20000
set_option maxHeartbeats 400000
namespace Go.Proofs.Ytlpjeckhejbkkaa
open Go.RowKit

theorem run_part_row {P : Program} {ty : TypeId} {sz : Nat} (E : RowT P ty sz) (w : World) (cs : Array Value) (off : Nat) : (part ty cs off).run P w = .ok (.agg (cs.extract off (off + sz))) w := by
  obtain ⟨d, h1, h2, h3⟩ := E
  cases hq : P.info? ty with
  | none => simp [hq] at h3
  | some i =>
    have hs : i.size = sz := by simpa [hq] using h3
    have hagg : (isAgg ty).run P w = .ok true w := by
      unfold isAgg
      rw [Sem.run_bind, run_underlying h1 w]
      cases d <;> simp_all [TypeDesc.isRow]
    simp [part, Sem.run_bind, hagg, sizeOf, typeInfo, hq, hs]
theorem GOp.extract4 (o : GOp) : o.cells.toArray.extract 4 37 = o.at_.cells.toArray := by
  apply Array.toList_inj.1
  simp [GOp.cells, List.take_of_length_le (Nat.le_of_eq (GIdent.cells_length o.at_))]
theorem GIdent.extract0 (a : GIdent) : a.cells.toArray.extract 0 32 = a.node.cells.toArray := by
  apply Array.toList_inj.1
  simp [GIdent.cells, GHash.cells_length]
section
variable (o p : GOp) (a b : GIdent) (h k : GHash) (w : World)
@[go_sem ↓] theorem run_field_op0 : (Instr.field 74 o.val 0).run Try.prog w = .ok (.int .i64 o.kind) w := by
  simp [Instr.field, run_underlying Try.underlying74, GOp.val, asAgg, part, isAgg, run_underlying Try.underlying3, GOp.cells]
@[go_sem ↓] theorem run_field_op1 : (Instr.field 74 o.val 1).run Try.prog w = .ok (.string o.key) w := by
  simp [Instr.field, run_underlying Try.underlying74, GOp.val, asAgg, part, isAgg, run_underlying Try.underlying9, GOp.cells]
@[go_sem ↓] theorem run_field_op2 : (Instr.field 74 o.val 2).run Try.prog w = .ok (.string o.text) w := by
  simp [Instr.field, run_underlying Try.underlying74, GOp.val, asAgg, part, isAgg, run_underlying Try.underlying9, GOp.cells]
@[go_sem ↓] theorem run_field_op3 : (Instr.field 74 o.val 3).run Try.prog w = .ok (.int .i64 o.n) w := by
  simp [Instr.field, run_underlying Try.underlying74, GOp.val, asAgg, part, isAgg, run_underlying Try.underlying2, GOp.cells]
@[go_sem ↓] theorem run_field_op4 : (Instr.field 74 o.val 4).run Try.prog w = .ok o.at_.val w := by
  simp only [Instr.field, run_underlying Try.underlying74, GOp.val, asAgg, Sem.run_bind, Sem.run_pure, Result.andThen_ok]
  exact (run_part_row rtIdent w o.cells.toArray 4).trans (by rw [GOp.extract4]; rfl)
@[go_sem ↓] theorem run_field_ident0 : (Instr.field 72 a.val 0).run Try.prog w = .ok a.node.val w := by
  simp only [Instr.field, run_underlying Try.underlying72, GIdent.val, asAgg, Sem.run_bind, Sem.run_pure, Result.andThen_ok]
  exact (run_part_row rtHash w a.cells.toArray 0).trans (by rw [Nat.zero_add, GIdent.extract0]; rfl)
@[go_sem ↓] theorem run_field_ident1 : (Instr.field 72 a.val 1).run Try.prog w = .ok (.int .i64 a.op) w := by
  simp [Instr.field, run_underlying Try.underlying72, GIdent.val, asAgg, part, isAgg, run_underlying Try.underlying3, GIdent.cells, GHash.cells_length, List.getElem?_append_right]

/-! ### equality -/
theorem ba_ext {a b : ByteArray} (h : a.data.toList = b.data.toList) : a = b := ByteArray.ext (Array.toList_inj.1 h)
theorem ba_beq (a b : ByteArray) : (a == b) = true ↔ a = b := by
  rw [beq_toListBytes, beq_iff_eq, ByteArray.toList_eq, ByteArray.toList_eq]
  exact ⟨ba_ext, fun h => by rw [h]⟩
theorem eqf_step {P : Program} {w : World} {d : Nat} {xs ys : Array Value} {f : Field} {fs : List Field} {a b : Value} {r s : Bool} (hn : f.name ≠ "_") (ha : (part f.type xs f.offset).run P w = .ok a w) (hb : (part f.type ys f.offset).run P w = .ok b w)
    (he : (Op.equalIn d f.type a b).run P w = .ok r w) (hr : (Op.eqFields d xs ys fs).run P w = .ok s w) : (Op.eqFields d xs ys (f :: fs)).run P w = .ok (r && s) w := by
  rw [Op.eqFields, if_pos hn]
  simp only [Sem.run_bind, ha, hb, he, Result.andThen_ok]
  cases r
  · simp
  · simpa using hr
theorem eqf_nil {P : Program} {w : World} {d : Nat} {xs ys : Array Value} : (Op.eqFields d xs ys []).run P w = .ok true w := by simp [Op.eqFields]
theorem sizeByte (w : World) : (sizeOf 5).run Try.prog w = .ok 1 w := by
  obtain ⟨i, hi, _, hs, _⟩ := info_parts infoByte
  simp [sizeOf, typeInfo, hi, hs]
theorem run_equalIn_hash (d : Nat) : (Op.equalIn (d + 2) 46 h.val k.val).run Try.prog w = .ok (h == k) w := by
  have := run_equalIn_bytes (P := Try.prog) w d 46 5 32 Try.underlying46 Try.underlying5 sizeByte h.l k.l h.h k.h
  have e : (bv : UInt8 → Value) = Extern.Stop.cell := rfl
  unfold GHash.val GHash.cells
  rw [e]
  refine this.trans ?_
  congr 1
  rw [Bool.eq_iff_iff]
  simp only [beq_iff_eq]
  exact ⟨fun e => by cases h; cases k; simp_all, fun e => by rw [e]⟩
theorem fsIdent : (Try.prog.fieldsOf 72).toList = [⟨"Node", 46, 0, false, "", "", 0⟩, ⟨"Op", 3, 32, false, "", "", 32⟩] := by kernel_rfl
theorem fsOp : (Try.prog.fieldsOf 74).toList = [⟨"Kind", 3, 0, false, "", "", 0⟩, ⟨"Key", 9, 1, false, "", "", 8⟩, ⟨"Text", 9, 2, false, "", "", 24⟩, ⟨"N", 2, 3, false, "", "", 40⟩, ⟨"At", 72, 4, false, "", "", 48⟩] := by kernel_rfl
theorem stIdent : Try.prog.stoodInHeld 72 = false := Try.stoodInHeld72
theorem stOp : Try.prog.stoodInHeld 74 = false := Try.stoodInHeld74
theorem unIdent : Try.prog.underlying 72 = some (.struct (Try.prog.fieldsOf 72)) := by simp [Program.fieldsOf, Try.underlying72]
theorem unOp : Try.prog.underlying 74 = some (.struct (Try.prog.fieldsOf 74)) := by simp [Program.fieldsOf, Try.underlying74]
theorem egOp : Try.prog.eqGuardType Try.prog.depth 74 = false := Try.eqGuardType74
theorem egIdent : Try.prog.eqGuardType Try.prog.depth 72 = false := Try.eqGuardType72
theorem egHash : Try.prog.eqGuardType Try.prog.depth 46 = false := Try.eqGuardType46
theorem run_equalIn_ident (d : Nat) : (Op.equalIn (d + 3) 72 a.val b.val).run Try.prog w = .ok (a == b) w := by
  have h1 := run_part_row rtHash w a.cells.toArray 0
  have h2 := run_part_row rtHash w b.cells.toArray 0
  rw [Nat.zero_add, GIdent.extract0] at h1 h2
  have h3 := run_equalIn_hash a.node b.node w d
  have h4 : ∀ x : GIdent, (part 3 x.cells.toArray 32).run Try.prog w = .ok (.int .i64 x.op) w := fun x => by
    simp [part, isAgg, run_underlying Try.underlying3, GIdent.cells, GHash.cells_length, List.getElem?_append_right]
  have h5 := run_equalIn_int (P := Try.prog) w (d + 1) 3 .i64 .i64 a.op b.op Try.underlying3
  unfold GHash.val at h3
  unfold GIdent.val
  rw [run_equalIn_struct w (d + 2) 72 _ _ unIdent stIdent, fsIdent]
  have ha : (a == b) = ((a.node == b.node) && ((a.op == b.op) && true)) := by
    rw [Bool.eq_iff_iff]
    simp only [beq_iff_eq, Bool.and_eq_true, and_true]
    exact ⟨fun e => by rw [e]; exact ⟨rfl, rfl⟩, fun e => by cases a; cases b; simp_all⟩
  rw [ha]
  exact eqf_step (f := ⟨"Node", 46, 0, false, "", "", 0⟩) (by simp) h1 h2 h3 (eqf_step (f := ⟨"Op", 3, 32, false, "", "", 32⟩) (by simp) (h4 a) (h4 b) h5 eqf_nil)
theorem run_equalIn_op (d : Nat) : (Op.equalIn (d + 4) 74 o.val p.val).run Try.prog w = .ok (o == p) w := by
  have h1 := run_part_row rtIdent w o.cells.toArray 4
  have h2 := run_part_row rtIdent w p.cells.toArray 4
  rw [show 4 + 33 = 37 from rfl, GOp.extract4] at h1 h2
  have h3 := run_equalIn_ident o.at_ p.at_ w d
  have k0 : ∀ x : GOp, (part 3 x.cells.toArray 0).run Try.prog w = .ok (.int .i64 x.kind) w := fun x => by simp [part, isAgg, run_underlying Try.underlying3, GOp.cells]
  have k1 : ∀ x : GOp, (part 9 x.cells.toArray 1).run Try.prog w = .ok (.string x.key) w := fun x => by simp [part, isAgg, run_underlying Try.underlying9, GOp.cells]
  have k2 : ∀ x : GOp, (part 9 x.cells.toArray 2).run Try.prog w = .ok (.string x.text) w := fun x => by simp [part, isAgg, run_underlying Try.underlying9, GOp.cells]
  have k3 : ∀ x : GOp, (part 2 x.cells.toArray 3).run Try.prog w = .ok (.int .i64 x.n) w := fun x => by simp [part, isAgg, run_underlying Try.underlying2, GOp.cells]
  have e0 := run_equalIn_int (P := Try.prog) w (d + 2) 3 .i64 .i64 o.kind p.kind Try.underlying3
  have e1 := run_equalIn_string (P := Try.prog) w (d + 2) 9 o.key p.key Try.underlying9
  have e2 := run_equalIn_string (P := Try.prog) w (d + 2) 9 o.text p.text Try.underlying9
  have e3 := run_equalIn_int (P := Try.prog) w (d + 2) 2 .i64 .i64 o.n p.n Try.underlying2
  rw [← beq_toListBytes] at e1 e2
  unfold GIdent.val at h3
  unfold GOp.val
  rw [run_equalIn_struct w (d + 3) 74 _ _ unOp stOp, fsOp]
  have ha : (o == p) = ((o.kind == p.kind) && ((o.key == p.key) && ((o.text == p.text) && ((o.n == p.n) && ((o.at_ == p.at_) && true))))) := by
    rw [Bool.eq_iff_iff]
    simp only [beq_iff_eq, Bool.and_eq_true, and_true]
    rw [ba_beq, ba_beq]
    exact ⟨fun e => by rw [e]; simp, fun ⟨e0, e1, e2, e3, e4⟩ => by cases o; cases p; simp_all⟩
  rw [ha]
  exact eqf_step (f := ⟨"Kind", 3, 0, false, "", "", 0⟩) (by simp) (k0 o) (k0 p) e0 (eqf_step (f := ⟨"Key", 9, 1, false, "", "", 8⟩) (by simp) (k1 o) (k1 p) e1 (eqf_step (f := ⟨"Text", 9, 2, false, "", "", 24⟩) (by simp) (k2 o) (k2 p) e2 (eqf_step (f := ⟨"N", 2, 3, false, "", "", 40⟩) (by simp) (k3 o) (k3 p) e3
    (eqf_step (f := ⟨"At", 72, 4, false, "", "", 48⟩) (by simp) h1 h2 h3 eqf_nil))))
variable (x y : Operand)
@[go_sem ↓] theorem run_guard_op (op : BinOp) : (eqGuard op 74 x y o.val p.val).run Try.prog w = .ok () w := run_eqGuard_agg w op _ x y _ _ egOp
@[go_sem ↓] theorem run_guard_ident (op : BinOp) : (eqGuard op 72 x y a.val b.val).run Try.prog w = .ok () w := run_eqGuard_agg w op _ x y _ _ egIdent
@[go_sem ↓] theorem run_guard_hash (op : BinOp) : (eqGuard op 46 x y h.val k.val).run Try.prog w = .ok () w := run_eqGuard_agg w op _ x y _ _ egHash
@[go_sem ↓] theorem run_eql_op : (binOp .eql 74 o.val p.val).run Try.prog w = .ok (.bool (o == p)) w := by
  have := run_equalIn_op o p w 9996
  unfold GOp.val at this ⊢
  rw [run_eql_struct, this]; rfl
@[go_sem ↓] theorem run_neq_op : (binOp .neq 74 o.val p.val).run Try.prog w = .ok (.bool (!(o == p))) w := by
  have := run_equalIn_op o p w 9996
  unfold GOp.val at this ⊢
  rw [run_neq_struct, this]; rfl
@[go_sem ↓] theorem run_eql_ident : (binOp .eql 72 a.val b.val).run Try.prog w = .ok (.bool (a == b)) w := by
  have := run_equalIn_ident a b w 9997
  unfold GIdent.val at this ⊢
  rw [run_eql_struct, this]; rfl
@[go_sem ↓] theorem run_neq_ident : (binOp .neq 72 a.val b.val).run Try.prog w = .ok (.bool (!(a == b))) w := by
  have := run_equalIn_ident a b w 9997
  unfold GIdent.val at this ⊢
  rw [run_neq_struct, this]; rfl
@[go_sem ↓] theorem run_eql_hash : (binOp .eql 46 h.val k.val).run Try.prog w = .ok (.bool (h == k)) w := by
  have := run_equalIn_hash h k w 9998
  unfold GHash.val at this ⊢
  rw [run_eql_struct, this]; rfl
@[go_sem ↓] theorem run_neq_hash : (binOp .neq 46 h.val k.val).run Try.prog w = .ok (.bool (!(h == k))) w := by
  have := run_equalIn_hash h k w 9998
  unfold GHash.val at this ⊢
  rw [run_neq_struct, this]; rfl
end
/-! ### zero values, written out by the program -/
theorem zero_hash : Value.agg #[.int .u8 0, .int .u8 0, .int .u8 0, .int .u8 0, .int .u8 0, .int .u8 0, .int .u8 0, .int .u8 0, .int .u8 0, .int .u8 0, .int .u8 0, .int .u8 0, .int .u8 0, .int .u8 0, .int .u8 0, .int .u8 0, .int .u8 0, .int .u8 0, .int .u8 0, .int .u8 0, .int .u8 0, .int .u8 0, .int .u8 0, .int .u8 0, .int .u8 0, .int .u8 0, .int .u8 0, .int .u8 0, .int .u8 0, .int .u8 0, .int .u8 0, .int .u8 0] = GHash.zero.val := rfl
theorem zero_ident : Value.agg #[.int .u8 0, .int .u8 0, .int .u8 0, .int .u8 0, .int .u8 0, .int .u8 0, .int .u8 0, .int .u8 0, .int .u8 0, .int .u8 0, .int .u8 0, .int .u8 0, .int .u8 0, .int .u8 0, .int .u8 0, .int .u8 0, .int .u8 0, .int .u8 0, .int .u8 0, .int .u8 0, .int .u8 0, .int .u8 0, .int .u8 0, .int .u8 0, .int .u8 0, .int .u8 0, .int .u8 0, .int .u8 0, .int .u8 0, .int .u8 0, .int .u8 0, .int .u8 0, .int .i64 0] = GIdent.zero.val := rfl
theorem zero_op : Value.agg #[.int .i64 0, .string ⟨#[]⟩, .string ⟨#[]⟩, .int .i64 0, .int .u8 0, .int .u8 0, .int .u8 0, .int .u8 0, .int .u8 0, .int .u8 0, .int .u8 0, .int .u8 0, .int .u8 0, .int .u8 0, .int .u8 0, .int .u8 0, .int .u8 0, .int .u8 0, .int .u8 0, .int .u8 0, .int .u8 0, .int .u8 0, .int .u8 0, .int .u8 0, .int .u8 0, .int .u8 0, .int .u8 0, .int .u8 0, .int .u8 0, .int .u8 0, .int .u8 0, .int .u8 0, .int .u8 0, .int .u8 0, .int .u8 0, .int .u8 0, .int .i64 0] = GOp.zero.val := rfl
section
variable (h : GHash) (a : GIdent) (w : World) (x y : Operand) (op : BinOp)
@[go_sem ↓] theorem run_guard_hash0 : (eqGuard op 46 x y h.val (.agg #[.int .u8 0, .int .u8 0, .int .u8 0, .int .u8 0, .int .u8 0, .int .u8 0, .int .u8 0, .int .u8 0, .int .u8 0, .int .u8 0, .int .u8 0, .int .u8 0, .int .u8 0, .int .u8 0, .int .u8 0, .int .u8 0, .int .u8 0, .int .u8 0, .int .u8 0, .int .u8 0, .int .u8 0, .int .u8 0, .int .u8 0, .int .u8 0, .int .u8 0, .int .u8 0, .int .u8 0, .int .u8 0, .int .u8 0, .int .u8 0, .int .u8 0, .int .u8 0])).run Try.prog w = .ok () w := run_guard_hash h GHash.zero w x y op
@[go_sem ↓] theorem run_guard_ident0 : (eqGuard op 72 x y a.val (.agg #[.int .u8 0, .int .u8 0, .int .u8 0, .int .u8 0, .int .u8 0, .int .u8 0, .int .u8 0, .int .u8 0, .int .u8 0, .int .u8 0, .int .u8 0, .int .u8 0, .int .u8 0, .int .u8 0, .int .u8 0, .int .u8 0, .int .u8 0, .int .u8 0, .int .u8 0, .int .u8 0, .int .u8 0, .int .u8 0, .int .u8 0, .int .u8 0, .int .u8 0, .int .u8 0, .int .u8 0, .int .u8 0, .int .u8 0, .int .u8 0, .int .u8 0, .int .u8 0, .int .i64 0])).run Try.prog w = .ok () w := run_guard_ident a GIdent.zero w x y op
@[go_sem ↓] theorem run_eql_hash0 : (binOp .eql 46 h.val (.agg #[.int .u8 0, .int .u8 0, .int .u8 0, .int .u8 0, .int .u8 0, .int .u8 0, .int .u8 0, .int .u8 0, .int .u8 0, .int .u8 0, .int .u8 0, .int .u8 0, .int .u8 0, .int .u8 0, .int .u8 0, .int .u8 0, .int .u8 0, .int .u8 0, .int .u8 0, .int .u8 0, .int .u8 0, .int .u8 0, .int .u8 0, .int .u8 0, .int .u8 0, .int .u8 0, .int .u8 0, .int .u8 0, .int .u8 0, .int .u8 0, .int .u8 0, .int .u8 0])).run Try.prog w = .ok (.bool (h == GHash.zero)) w := run_eql_hash h GHash.zero w
@[go_sem ↓] theorem run_neq_hash0 : (binOp .neq 46 h.val (.agg #[.int .u8 0, .int .u8 0, .int .u8 0, .int .u8 0, .int .u8 0, .int .u8 0, .int .u8 0, .int .u8 0, .int .u8 0, .int .u8 0, .int .u8 0, .int .u8 0, .int .u8 0, .int .u8 0, .int .u8 0, .int .u8 0, .int .u8 0, .int .u8 0, .int .u8 0, .int .u8 0, .int .u8 0, .int .u8 0, .int .u8 0, .int .u8 0, .int .u8 0, .int .u8 0, .int .u8 0, .int .u8 0, .int .u8 0, .int .u8 0, .int .u8 0, .int .u8 0])).run Try.prog w = .ok (.bool (!(h == GHash.zero))) w := run_neq_hash h GHash.zero w
@[go_sem ↓] theorem run_eql_ident0 : (binOp .eql 72 a.val (.agg #[.int .u8 0, .int .u8 0, .int .u8 0, .int .u8 0, .int .u8 0, .int .u8 0, .int .u8 0, .int .u8 0, .int .u8 0, .int .u8 0, .int .u8 0, .int .u8 0, .int .u8 0, .int .u8 0, .int .u8 0, .int .u8 0, .int .u8 0, .int .u8 0, .int .u8 0, .int .u8 0, .int .u8 0, .int .u8 0, .int .u8 0, .int .u8 0, .int .u8 0, .int .u8 0, .int .u8 0, .int .u8 0, .int .u8 0, .int .u8 0, .int .u8 0, .int .u8 0, .int .i64 0])).run Try.prog w = .ok (.bool (a == GIdent.zero)) w := run_eql_ident a GIdent.zero w
end
/-! ### operations in memory -/
def HashAt (w : World) (q off : Nat) (h : GHash) : Prop := CellsAt w q off h.cells
def IdAt (w : World) (q off : Nat) (a : GIdent) : Prop := CellsAt w q off a.cells
def OpAt (w : World) (q off : Nat) (o : GOp) : Prop := CellsAt w q off o.cells
section
variable {w w' : World} {q off : Nat} {h : GHash} {a : GIdent} {o : GOp} {S : List Nat}
theorem IdAt.node (H : IdAt w q off a) : HashAt w q off a.node := fun i u hu => H i u (by
  unfold GIdent.cells
  rw [List.getElem?_append_left (List.getElem?_eq_some_iff.1 hu).1]
  exact hu)
theorem IdAt.op (H : IdAt w q off a) : w.cell? ⟨q, off + 32, none⟩ = some (.int .i64 a.op) := H 32 _ (by
  unfold GIdent.cells
  rw [List.getElem?_append_right (by rw [GHash.cells_length]; omega), GHash.cells_length]
  rfl)
theorem OpAt.at_ (H : OpAt w q off o) : IdAt w q (off + 4) o.at_ := fun i u hu => by
  have := H (4 + i) u (by unfold GOp.cells; rw [show 4 + i = i + 1 + 1 + 1 + 1 by omega]; simpa using hu)
  rwa [← Nat.add_assoc] at this
theorem OpAt.kind (H : OpAt w q off o) : w.cell? ⟨q, off, none⟩ = some (.int .i64 o.kind) := H 0 _ rfl
theorem OpAt.key (H : OpAt w q off o) : w.cell? ⟨q, off + 1, none⟩ = some (.string o.key) := H 1 _ rfl
theorem OpAt.text (H : OpAt w q off o) : w.cell? ⟨q, off + 2, none⟩ = some (.string o.text) := H 2 _ rfl
theorem OpAt.n (H : OpAt w q off o) : w.cell? ⟨q, off + 3, none⟩ = some (.int .i64 o.n) := H 3 _ rfl
theorem OpAt.op (H : OpAt w q off o) : w.cell? ⟨q, off + 36, none⟩ = some (.int .i64 o.at_.op) := H.at_.op
end
/-- an operation in a variable of its own: all that a walk reads of it -/
def OpV (w : World) (q : Nat) (o : GOp) : Prop := Blk w q 74 o.cells.toArray
def IdV (w : World) (q : Nat) (a : GIdent) : Prop := Blk w q 72 a.cells.toArray
theorem OpV.open_ {w : World} {q : Nat} {o : GOp} (h : OpV w q o) : w.cell? ⟨q, 0, none⟩ = some (.int .i64 o.kind) ∧ w.cell? ⟨q, 1, none⟩ = some (.string o.key) ∧ w.cell? ⟨q, 2, none⟩ = some (.string o.text) ∧ w.cell? ⟨q, 3, none⟩ = some (.int .i64 o.n) ∧
    w.cell? ⟨q, 36, none⟩ = some (.int .i64 o.at_.op) ∧ Hid (OpAt w q 0 o) ∧ Hid (IdAt w q 4 o.at_) ∧ Hid (HashAt w q 4 o.at_.node) := by
  have h1 : OpAt w q 0 o := CellsAt.of_blk h
  have h2 := h1.at_
  have h3 := h1.key
  have h4 := h1.text
  have h5 := h1.n
  have h6 := h1.op
  rw [Nat.zero_add] at h2 h3 h4 h5 h6
  exact ⟨h1.kind, h3, h4, h5, h6, Lib.hid h1, Lib.hid h2, Lib.hid h2.node⟩
theorem IdV.open_ {w : World} {q : Nat} {a : GIdent} (h : IdV w q a) : w.cell? ⟨q, 32, none⟩ = some (.int .i64 a.op) ∧ Hid (IdAt w q 0 a) ∧ Hid (HashAt w q 0 a.node) := by
  have h1 : IdAt w q 0 a := CellsAt.of_blk h
  have h2 := h1.op
  rw [Nat.zero_add] at h2
  exact ⟨h2, Lib.hid h1, Lib.hid h1.node⟩
section
variable {ops : Array Oper} {rest : List Oper} {op : Oper} {a : Act} {w : World} {Q : Exit → Act → World → Prop}
theorem wpList_box_op (x : Operand) (ho : op.op = .box 74 x) (hgd : Region.wanted op (yielded ops a.tmps) = true) {o : GOp} (hx : a.eval x = o.val)
    (h : ∀ q w1, OpV w1 q o → Mod [] w w1 → w.heap.size ≤ q → q < w1.heap.size → wpList Try.prog ops Q rest (a.put op.dst (.pointer (some ⟨q, 0, none⟩))) w1) : wpList Try.prog ops Q (op :: rest) a w :=
  wpList_box x ho hgd hx h
theorem wpList_box_ident (x : Operand) (ho : op.op = .box 72 x) (hgd : Region.wanted op (yielded ops a.tmps) = true) {o : GIdent} (hx : a.eval x = o.val)
    (h : ∀ q w1, IdV w1 q o → Mod [] w w1 → w.heap.size ≤ q → q < w1.heap.size → wpList Try.prog ops Q rest (a.put op.dst (.pointer (some ⟨q, 0, none⟩))) w1) : wpList Try.prog ops Q (op :: rest) a w :=
  wpList_box x ho hgd hx h
theorem wpList_load_op (x : Operand) (ho : op.op = .load 74 x) (hgd : Region.wanted op (yielded ops a.tmps) = true) {b k : Nat} {o : GOp} (H : OpAt w b k o) (hx : a.eval x = .pointer (some ⟨b, k, none⟩))
    (h : wpList Try.prog ops Q rest (a.put op.dst o.val) w) : wpList Try.prog ops Q (op :: rest) a w :=
  wpList_load_cells rtOp x ho hgd hx o.cells_length H h
theorem wpList_load_ident (x : Operand) (ho : op.op = .load 72 x) (hgd : Region.wanted op (yielded ops a.tmps) = true) {b k : Nat} {o : GIdent} (H : IdAt w b k o) (hx : a.eval x = .pointer (some ⟨b, k, none⟩))
    (h : wpList Try.prog ops Q rest (a.put op.dst o.val) w) : wpList Try.prog ops Q (op :: rest) a w :=
  wpList_load_cells rtIdent x ho hgd hx o.cells_length H h
theorem wpList_load_hash (x : Operand) (ho : op.op = .load 46 x) (hgd : Region.wanted op (yielded ops a.tmps) = true) {b k : Nat} {o : GHash} (H : HashAt w b k o) (hx : a.eval x = .pointer (some ⟨b, k, none⟩))
    (h : wpList Try.prog ops Q rest (a.put op.dst o.val) w) : wpList Try.prog ops Q (op :: rest) a w :=
  wpList_load_cells rtHash x ho hgd hx o.cells_length H h
theorem wpList_store_op (x y : Operand) (ho : op.op = .store 74 x y) (hgd : Region.wanted op (yielded ops a.tmps) = true) {g : Nat} {o : GOp} {old : Array Value} (hx : a.eval x = .pointer (some ⟨g, 0, none⟩)) (hy : a.eval y = o.val) (hb : Blk w g 74 old) (hold : old.size = 37)
    (h : ∀ w', OpV w' g o → Mod [g] w w' → wpList Try.prog ops Q rest (a.put op.dst undef) w') : wpList Try.prog ops Q (op :: rest) a w :=
  wpList_store_blk rtOp x y ho hgd hx hy hb o.cells_length hold o.one h
end
/-! ### an operation in memory, as a region that draws its order reads it -/
theorem OpAt.uniq {w : World} {q k : Nat} {o p : GOp} (h : OpAt w q k o) (h' : OpAt w q k p) : o = p := by
  have e : ∀ i : Nat, i < 37 → o.cells[i]? = p.cells[i]? := fun i hi => by
    have h1 : i < o.cells.length := by rw [o.cells_length]; exact hi
    have h2 : i < p.cells.length := by rw [p.cells_length]; exact hi
    rw [List.getElem?_eq_getElem h1, List.getElem?_eq_getElem h2, ← h i _ (List.getElem?_eq_getElem h1), ← h' i _ (List.getElem?_eq_getElem h2)]
  have el : o.cells = p.cells := List.ext_getElem? fun i => by
    by_cases hi : i < 37
    · exact e i hi
    · rw [List.getElem?_eq_none (by rw [o.cells_length]; omega), List.getElem?_eq_none (by rw [p.cells_length]; omega)]
  obtain ⟨k1, ky1, t1, n1, ⟨⟨h1, hh1⟩, i1⟩⟩ := o
  obtain ⟨k2, ky2, t2, n2, ⟨⟨h2, hh2⟩, i2⟩⟩ := p
  simp only [GOp.cells, GIdent.cells, GHash.cells, List.cons.injEq, Value.int.injEq, Value.string.injEq, true_and] at el
  obtain ⟨e0, e1, e2, e3, e4⟩ := el
  obtain ⟨e5, e6⟩ := List.append_inj e4 (by simp [hh1, hh2])
  have e7 := (List.map_inj_right (f := bv) (fun a b hab => by simp only [Value.int.injEq, true_and] at hab; exact UInt8.toNat_inj.1 (by omega))).1 e5
  simp only [List.cons.injEq, Value.int.injEq, true_and, and_true] at e6
  subst e0 e1 e2 e3 e6 e7
  rfl
def OpIn (w : World) (q k : Nat) : Prop := ∃ o, OpAt w q k o
open Classical in
@[irreducible] noncomputable def opOf (w : World) (q k : Nat) : GOp := if h : ∃ o, OpAt w q k o then h.choose else GOp.zero
theorem OpAt.in_ {w : World} {q k : Nat} {o : GOp} (h : OpAt w q k o) : OpIn w q k ∧ opOf w q k = o := by
  refine ⟨⟨o, h⟩, ?_⟩
  unfold opOf
  have hx : ∃ o, OpAt w q k o := ⟨o, h⟩
  rw [dif_pos hx]
  exact hx.choose_spec.uniq h
@[irreducible] def loadOp (x : Value) : Sem Value := Instr.loadAt 74 x
@[go_sem ↓] theorem loadAt_op (x : Value) : Instr.loadAt 74 x = loadOp x := by unfold loadOp; rfl
@[go_sem ↓] theorem run_loadOp {w : World} {q k : Nat} (h : OpIn w q k) : (loadOp (.pointer (some ⟨q, k, none⟩))).run Try.prog w = .ok (opOf w q k).val w := by
  obtain ⟨o, ho⟩ := h
  rw [ho.in_.2]
  obtain ⟨d, h1, h2, h3⟩ := rtOp
  unfold loadOp
  exact run_loadAt_mid w q k _ o.cells d ho h1 h2 (by rw [h3, o.cells_length])
/-! ### a store of a whole operation, as a region that draws its order meets it -/
def OpSpace (w : World) (q : Nat) : Prop := ∃ cs, Blk w q 74 cs ∧ cs.size = 37
@[irreducible] def World.setOp (w : World) (q : Nat) (o : GOp) : World := w.setRow q o.cells.toArray
@[irreducible] def storeOp (x y : Value) : Sem Unit := Instr.storeAt 74 x y
@[go_sem ↓] theorem storeAt_op (x y : Value) : Instr.storeAt 74 x y = storeOp x y := by unfold storeOp; rfl
theorem OpSpace.blk {w : World} {q : Nat} (h : OpSpace w q) (o : GOp) : Blk (World.setOp w q o) q 74 o.cells.toArray := by
  obtain ⟨cs, hb, hs⟩ := h
  unfold World.setOp
  exact setRow_heap w q cs _ _ _ hb
@[go_sem ↓] theorem run_storeOp {w : World} {q : Nat} {o : GOp} (h : OpSpace w q) : (storeOp (.pointer (some ⟨q, 0, none⟩)) o.val).run Try.prog w = .ok () (World.setOp w q o) := by
  obtain ⟨cs, hb, hs⟩ := h
  obtain ⟨d, _, _, h3⟩ := rtOp
  unfold storeOp World.setOp
  simp only [Instr.storeAt, Instr.sureAddr, Sem.run_bind, Sem.run_pure, Result.andThen_ok]
  exact run_storeVar_row w q 74 74 cs o.cells.toArray hb (by rw [h3]; simp [o.cells_length]) (by simp [hs, o.cells_length]) (all_oneCell_toArray o.one)
theorem Mod.setOp {S : List Nat} {a w : World} (h : Mod S a w) (q : Nat) (o : GOp) (hp : q ∈ S ∨ a.heap.size ≤ q) : Mod S a (World.setOp w q o) := by
  unfold World.setOp
  exact h.setRow q _ hp
@[go_sem] theorem setOp_size (w : World) (q : Nat) (o : GOp) : (World.setOp w q o).heap.size = w.heap.size := by unfold World.setOp; simp
@[go_sem] theorem space_new (w : World) : OpSpace (w.alloc (.cells GOp.zero.cells.toArray 74)) w.heap.size := ⟨_, Blk.new w _ _, by simp [GOp.cells_length]⟩
/-- a slice that reads as operations -/
abbrev OS (w : World) (g : Nat) (v : Value) (l : List GOp) : Prop := RS w 37 g v l.length (l.flatMap GOp.cells)
theorem OS.item {w : World} {g : Nat} {v : Value} {l : List GOp} (h : OS w g v l) (h0 : 0 < l.length) :
    ∃ off cap, v = .slice (some ⟨g, off, none⟩) l.length cap ∧ l.length ≤ cap ∧ cap ≤ maxLen ∧ g < w.heap.size ∧ ∀ (i : Nat) (hi : i < l.length), OpAt w g (off + i * 37) l[i] := RS.item GOp.cells_length h h0
end Go.Proofs.Ytlpjeckhejbkkaa
