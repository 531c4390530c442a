import Derived.Test.YtlpjeckhejbkkaaOp
import Derived.Test.YtlpjeckhejbkkaaIn3
import Derived.Test.YtlpjeckhejbkkaaOut3
set_option linter.unusedVariables false
set_option linter.unusedSimpArgs false
set_option maxRecDepth 20000
set_option maxHeartbeats 400000
namespace Go.Proofs.Ytlpjeckhejbkkaa
open Go.RowKit

/-! ### the fields that operations may have -/
def fnv (n : Nat) : Value := .func (.func n) #[] #[]
inductive Fld where
  | text
  | number
  | at_
deriving DecidableEq
def Fld.cells : Fld → List Value
  | .text => [fnv 91, fnv 92, fnv 93]
  | .number => [fnv 94, fnv 95, fnv 97]
  | .at_ => [fnv 99, fnv 100, fnv 101]
def Fld.val (f : Fld) : Value := .agg f.cells.toArray
theorem Fld.cells_length (f : Fld) : f.cells.length = 3 := by cases f <;> rfl
theorem Fld.one (f : Fld) : ∀ u ∈ f.cells, u.oneCell' = true := by cases f <;> simp [Fld.cells, fnv, Value.oneCell']
theorem rtFld : RowT Try.prog 120 3 := ⟨_, Try.underlying120, rfl, by kernel_rfl⟩
abbrev FS (w : World) (g : Nat) (v : Value) (l : List Fld) : Prop := RS w 3 g v l.length (l.flatMap Fld.cells)

theorem text_any (w : World) : Calls Try.prog 82 #[] w fun e w' => e = .returned Fld.text.val ∧ Mod [] w w' := by
  go_enter Try.func82, Try.ntmps82
  go_wp2_with ((with_reducible refine wpList_store_blk rtFld (cells := Fld.text.cells) _ _ rfl ?hgd ?hx ?hy (Blk.new _ _ _) ?hl ?hold (Fld.one _) ?_); (case hgd => exact rfl); (case hx => exact rfl); (case hy => exact rfl); (case hl => exact rfl); (case hold => exact rfl); intro w2 hv2 hm2; have HV := Lib.hid hv2; have HM := Lib.hid hm2; clear hv2 hm2)
  refine bodyPost_ret (results_row rtFld rfl rfl HV.out (by simp [Fld.cells_length])) rfl ?_
  exact ⟨rfl, ((Mod.refl [] w).alloc _).then HM.out (by simp)⟩
theorem number_fld (w : World) : Calls Try.prog 83 #[] w fun e w' => e = .returned Fld.number.val ∧ Mod [] w w' := by
  go_enter Try.func83, Try.ntmps83
  go_wp2_with ((with_reducible refine wpList_store_blk rtFld (cells := Fld.number.cells) _ _ rfl ?hgd ?hx ?hy (Blk.new _ _ _) ?hl ?hold (Fld.one _) ?_); (case hgd => exact rfl); (case hx => exact rfl); (case hy => exact rfl); (case hl => exact rfl); (case hold => exact rfl); intro w2 hv2 hm2; have HV := Lib.hid hv2; have HM := Lib.hid hm2; clear hv2 hm2)
  refine bodyPost_ret (results_row rtFld rfl rfl HV.out (by simp [Fld.cells_length])) rfl ?_
  exact ⟨rfl, ((Mod.refl [] w).alloc _).then HM.out (by simp)⟩
theorem at_fld (w : World) : Calls Try.prog 84 #[] w fun e w' => e = .returned Fld.at_.val ∧ Mod [] w w' := by
  go_enter Try.func84, Try.ntmps84
  go_wp2_with ((with_reducible refine wpList_store_blk rtFld (cells := Fld.at_.cells) _ _ rfl ?hgd ?hx ?hy (Blk.new _ _ _) ?hl ?hold (Fld.one _) ?_); (case hgd => exact rfl); (case hx => exact rfl); (case hy => exact rfl); (case hl => exact rfl); (case hold => exact rfl); intro w2 hv2 hm2; have HV := Lib.hid hv2; have HM := Lib.hid hm2; clear hv2 hm2)
  refine bodyPost_ret (results_row rtFld rfl rfl HV.out (by simp [Fld.cells_length])) rfl ?_
  exact ⟨rfl, ((Mod.refl [] w).alloc _).then HM.out (by simp)⟩

def Fld.zero (f : Fld) (o : GOp) : Bool := match f with
  | .text => o.text.size == 0
  | .number => o.n == 0
  | .at_ => o.at_ == GIdent.zero
theorem size_zero (s : ByteArray) : (s.toList == (ByteArray.toList ⟨#[]⟩)) = (s.size == 0) := by
  rw [Bool.eq_iff_iff, beq_iff_eq, beq_iff_eq, ByteArray.toList_eq, ByteArray.toList_eq]
  exact List.length_eq_zero_iff.symm
theorem textZero_any (o : GOp) (w : World) : Calls Try.prog 91 #[o.val] w fun e w' => e = .returned (.bool (Fld.zero .text o)) ∧ Mod [] w w' := by
  go_enter Try.func91, Try.ntmps91
  go_wp2_with (first | ((with_reducible refine wpList_box_op _ rfl ?hgd (o := o) ?hx ?_); (case hgd => exact rfl); (case hx => exact rfl); intro q1 w1 hv1 hm1 hq1 hl1; obtain ⟨c0, c1, c2, c3, c36, HA0, HA4, HH4⟩ := hv1.open_; have HM1 := Lib.hid hm1; clear hv1 hm1))
  go_ret
  exact ⟨ret_bool (by simp [Fld.zero, ← size_zero]), HM1.out⟩
theorem numberZero_any (o : GOp) (w : World) : Calls Try.prog 94 #[o.val] w fun e w' => e = .returned (.bool (Fld.zero .number o)) ∧ Mod [] w w' := by
  go_enter Try.func94, Try.ntmps94
  go_wp2_with (first | ((with_reducible refine wpList_box_op _ rfl ?hgd (o := o) ?hx ?_); (case hgd => exact rfl); (case hx => exact rfl); intro q1 w1 hv1 hm1 hq1 hl1; obtain ⟨c0, c1, c2, c3, c36, HA0, HA4, HH4⟩ := hv1.open_; have HM1 := Lib.hid hm1; clear hv1 hm1))
  go_ret
  exact ⟨ret_bool rfl, HM1.out⟩
theorem atZero_any (o : GOp) (w : World) : Calls Try.prog 99 #[o.val] w fun e w' => e = .returned (.bool (Fld.zero .at_ o)) ∧ Mod [] w w' := by
  go_enter Try.func99, Try.ntmps99
  go_wp2_with (first | ((with_reducible refine wpList_box_op _ rfl ?hgd (o := o) ?hx ?_); (case hgd => exact rfl); (case hx => exact rfl); intro q1 w1 hv1 hm1 hq1 hl1; obtain ⟨c0, c1, c2, c3, c36, HA0, HA4, HH4⟩ := hv1.open_; have HM1 := Lib.hid hm1; clear hv1 hm1) | ((with_reducible refine wpList_load_ident _ rfl ?hgd HA4.out ?hx ?_); (case hgd => exact rfl); (case hx => exact rfl)))
  go_ret
  exact ⟨ret_bool rfl, HM1.out⟩
/-! ### laid -/
def Fld.lay (f : Fld) (o : GOp) : Bytes := match f with
  | .text => putText o.text
  | .number => putNum (zig o.n)
  | .at_ => putAt o.at_
def Fld.fits (f : Fld) (o : GOp) : Prop := match f with
  | .text => o.text.size ≤ 65536
  | .number => -9223372036854775808 ≤ o.n ∧ o.n ≤ 9223372036854775807
  | .at_ => 0 ≤ o.at_.op ∧ o.at_.op ≤ 1024
theorem OutP.of_mod {w w1 w' : World} {p : Nat} {F : List Nat} {xs : Bytes} {e : Ending} (hm : Mod [] w w1) (h : OutP w1 p F xs e w') : OutP w p F xs e w' := by
  obtain ⟨he, F', h1, h2, h3⟩ := h
  refine ⟨he, F', h1, (hm.mono (by simp)).trans h2, fun b hb => (h3 b hb).imp id (by have := hm.size; omega)⟩
theorem OutP.trans {w w1 w' : World} {p : Nat} {F F1 : List Nat} {xs : Bytes} {e : Ending} (hm : Mod F w w1) (hf : Fresh w F F1) (h : OutP w1 p F1 xs e w') : OutP w p F xs e w' := by
  obtain ⟨he, F', h1, h2, h3⟩ := h
  exact ⟨he, F', h1, hm.fresh hf h2, hf.trans h3 hm.size⟩
theorem textLay_any (o : GOp) (p : Nat) (F : List Nat) (xs : Bytes) (w : World) (hO : OutB w p F xs) (hs : Fld.fits .text o) (hz : xs.length ≤ 170000000000000) :
    Calls Try.prog 92 #[ptr p, o.val] w (OutP w p F (xs ++ Fld.lay .text o)) := by
  have HO := Lib.hid hO; clear hO
  have HS := Lib.hid hs; clear hs
  go_enter Try.func92, Try.ntmps92
  go_wp2_with (first | ((with_reducible refine wpList_box_op _ rfl ?hgd (o := o) ?hx ?_); (case hgd => exact rfl); (case hx => exact rfl); intro q1 w1 hv1 hm1 hq1 hl1; obtain ⟨c0, c1, c2, c3, c36, HA0, HA4, HH4⟩ := hv1.open_; have HM1 := Lib.hid hm1; clear hv1 hm1))
  refine (outText_any p F xs o.text _ (HO.out.mod HM1.out (by simp)) (by have := HS.out; unfold Fld.fits at this; omega) (by have := HS.out; unfold Fld.fits at this; omega)).mono ?_
  rintro e' w2 hp
  have HP := Lib.hid (hp.of_mod HM1.out); clear hp
  obtain ⟨rfl, _⟩ := HP.out
  go_wp2
  go_end0
  exact HP.out
theorem numberLay_any (o : GOp) (p : Nat) (F : List Nat) (xs : Bytes) (w : World) (hO : OutB w p F xs) (hs : Fld.fits .number o) (hz : xs.length ≤ 170000000000000) :
    Calls Try.prog 95 #[ptr p, o.val] w (OutP w p F (xs ++ Fld.lay .number o)) := by
  have HO := Lib.hid hO; clear hO
  have HS := Lib.hid hs; clear hs
  go_enter Try.func95, Try.ntmps95
  go_wp2_with (first | ((with_reducible refine wpList_box_op _ rfl ?hgd (o := o) ?hx ?_); (case hgd => exact rfl); (case hx => exact rfl); intro q1 w1 hv1 hm1 hq1 hl1; obtain ⟨c0, c1, c2, c3, c36, HA0, HA4, HH4⟩ := hv1.open_; have HM1 := Lib.hid hm1; clear hv1 hm1))
  refine (outSigned_any p F xs o.n _ (HO.out.mod HM1.out (by simp)) HS.out.1 HS.out.2 (by omega)).mono ?_
  rintro e' w2 hp
  have HP := Lib.hid (hp.of_mod HM1.out); clear hp
  obtain ⟨rfl, _⟩ := HP.out
  go_wp2
  go_end0
  exact HP.out
theorem atLay_any (o : GOp) (p : Nat) (F : List Nat) (xs : Bytes) (w : World) (hO : OutB w p F xs) (hs : Fld.fits .at_ o) (hz : xs.length ≤ 170000000000000) :
    Calls Try.prog 100 #[ptr p, o.val] w (OutP w p F (xs ++ Fld.lay .at_ o)) := by
  have HO := Lib.hid hO; clear hO
  obtain ⟨k, hk⟩ : ∃ k : Nat, o.at_.op = (k : Int) := ⟨o.at_.op.toNat, by have := hs.1; omega⟩
  have hk1 : k ≤ 1024 := by have := hs.2; omega
  have HK := Lib.hid hk
  clear hs
  go_enter Try.func100, Try.ntmps100
  go_wp2_with (first | ((with_reducible refine wpList_box_op _ rfl ?hgd (o := o) ?hx ?_); (case hgd => exact rfl); (case hx => exact rfl); intro q1 w1 hv1 hm1 hq1 hl1; obtain ⟨c0, c1, c2, c3, c36, HA0, HA4, HH4⟩ := hv1.open_; rw [HK.out] at c36; have HM1 := Lib.hid hm1; clear hv1 hm1) | ((with_reducible refine wpList_load_ident _ rfl ?hgd HA4.out ?hx ?_); (case hgd => exact rfl); (case hx => exact rfl)) | ((with_reducible refine wpList_load_hash _ rfl ?hgd HH4.out ?hx ?_); (case hgd => exact rfl); (case hx => exact rfl)))
  refine (outNumber_any p F xs k w1 (HO.out.mod HM1.out (by simp)) (by omega) (by omega)).mono ?_
  rintro e' w2 ⟨rfl, F1, hO1, hm1, hf1⟩
  have hq : q1 ∉ F := fun h => by have := HO.out.all q1 h; omega
  have e36 := hm1.cell (p := ⟨q1, 36, none⟩) hl1 hq
  rw [c36] at e36
  have hh : HashAt w2 q1 4 o.at_.node := CellsAt.mod HH4.out hm1 hq
  have HH := Lib.hid hh; clear hh
  have HO1 := Lib.hid hO1; clear hO1
  have HM := Lib.hid hm1; clear hm1
  have HF := Lib.hid hf1; clear hf1
  clear c0 c1 c2 c3 c36 HA0 HA4 HH4
  have HL : Hid ((putNum k).length ≤ 10) := Lib.hid (putNum_length10 _ (by omega))
  by_cases hk0 : k = 0
  · subst hk0
    go_wp2
    go_end0
    refine OutP.of_mod HM1.out (OutP.trans HM.out HF.out ⟨rfl, F1, ?_, Mod.refl _ _, Fresh.refl _ _⟩)
    have e : Fld.lay .at_ o = putNum 0 := by simp [Fld.lay, putAt, HK.out]
    rw [e]
    exact HO1.out
  · go_wp2_with (first | ((with_reducible refine wpList_load_hash _ rfl ?hgd HH.out ?hx ?_); (case hgd => exact rfl); (case hx => exact rfl)))
    refine (outHash_any p F1 _ o.at_.node _ HO1.out (by have := HL.out; rw [List.length_append]; omega)).mono ?_
    rintro e' w3 hp
    have hp1 := OutP.of_mod HM1.out (OutP.trans HM.out HF.out hp)
    have HP := Lib.hid hp1; clear hp hp1
    obtain ⟨rfl, _⟩ := HP.out
    go_wp2
    go_end0
    have e : Fld.lay .at_ o = putNum k ++ o.at_.node.l := by simp [Fld.lay, putAt, HK.out, hk0]
    rw [e, ← List.append_assoc]
    exact HP.out
/-! ### read -/
def rdFld (f : Fld) (xs : Bytes) (pos : Nat) (o : GOp) : Rd GOp := match f with
  | .text => (rdText xs pos).bind fun s p => .ok { o with text := s } p
  | .number => (rdSigned xs pos).bind fun n p => .ok { o with n := n } p
  | .at_ => (rdNum xs pos 1024).bind fun n p => if n = 0 then .ok o p else (rdHash xs p).bind fun h q => .ok { o with at_ := ⟨h, n⟩ } q
def ReadP (w : World) (p g q : Nat) (xs : Bytes) (r : Rd GOp) (e' : Ending) (w' : World) : Prop :=
  match r with
  | .ok o pos => e' = .returned .nilIface ∧ InB w' p g xs pos .nilIface ∧ OpV w' q o ∧ Mod [p, q] w w'
  | .bad why at_ => ∃ b, e' = .returned (badV b) ∧ BadAt w' b why at_ ∧ InB w' p g xs at_ (badV b) ∧ Mod [p, q] w w' ∧ w.heap.size ≤ b
theorem textRead_any (o : GOp) (p g q : Nat) (xs : Bytes) (w : World) (n0 : Nat) (hI : InB w p g xs n0 .nilIface) (hn : n0 ≤ xs.length) (hz : xs.length ≤ 140737488355328) (hq : OpV w q o) (hqp : q ≠ p) (hqg : 0 < xs.length → g ≠ q) :
    Calls Try.prog 93 #[ptr p, ptr q] w (ReadP w p g q xs (rdFld .text xs n0 o)) := by
  have hread := inText_any p g xs w n0 hI hn hz
  have HN := Lib.hid hread; clear hread hI
  have HQ := Lib.hid hq; clear hq
  unfold rdFld
  generalize rdText xs n0 = r at *
  cases r with
  | ok x pos =>
    go_enter Try.func93, Try.ntmps93
    go_wp2_with fail
    refine HN.out.mono ?_
    rintro e' w1 ⟨rfl, hI1, hm⟩
    obtain ⟨c0, c1, c2, c3, c36, _⟩ := OpV.open_ (HQ.out.mod hm (by simpa using hqp))
    have f1 := (HQ.out.mod hm (by simpa using hqp)).frozen 2
    have HI1 := Lib.hid hI1; clear hI1
    have HM := Lib.hid hm; clear hm
    go_wp2
    go_ret
    have hms : Mod [q] w1 (w1.setCell ⟨q, 2, none⟩ (.string x)) := (Mod.refl [q] w1).setCell _ (by simp) _
    exact ⟨rfl, HI1.out.mod hms (by simpa using hqp.symm) (by simpa using hqg), (HQ.out.mod HM.out (by simpa using hqp)).set_ 2 _, (HM.out.mono (by simp)).trans (hms.mono (by simp))⟩
  | bad why at_ =>
    go_enter Try.func93, Try.ntmps93
    go_wp2_with fail
    refine HN.out.mono ?_
    rintro e' w1 ⟨b, rfl, hb, hI1, hm, hbq⟩
    obtain ⟨c0, c1, c2, c3, c36, _⟩ := OpV.open_ (HQ.out.mod hm (by simpa using hqp))
    have f1 := (HQ.out.mod hm (by simpa using hqp)).frozen 2
    have HI1 := Lib.hid hI1; clear hI1
    have HB := Lib.hid hb; clear hb
    have HM := Lib.hid hm; clear hm
    unfold badV
    go_wp2
    go_ret
    have hms : Mod [q] w1 (w1.setCell ⟨q, 2, none⟩ (.string ⟨#[]⟩)) := (Mod.refl [q] w1).setCell _ (by simp) _
    have hbl : b ≠ q := by have := HQ.out.lt; omega
    exact ⟨b, rfl, Blk.mod HB.out hms (by simpa using hbl), HI1.out.mod hms (by simpa using hqp.symm) (by simpa using hqg), (HM.out.mono (by simp)).trans (hms.mono (by simp)), hbq⟩
theorem numberRead_any (o : GOp) (p g q : Nat) (xs : Bytes) (w : World) (n0 : Nat) (hI : InB w p g xs n0 .nilIface) (hn : n0 ≤ xs.length) (hz : xs.length ≤ 140737488355328) (hq : OpV w q o) (hqp : q ≠ p) (hqg : 0 < xs.length → g ≠ q) :
    Calls Try.prog 97 #[ptr p, ptr q] w (ReadP w p g q xs (rdFld .number xs n0 o)) := by
  have hread := inSigned_any p g xs w n0 hI hn
  have HN := Lib.hid hread; clear hread hI
  have HQ := Lib.hid hq; clear hq
  unfold rdFld
  generalize rdSigned xs n0 = r at *
  cases r with
  | ok x pos =>
    go_enter Try.func97, Try.ntmps97
    go_wp2_with fail
    refine HN.out.mono ?_
    rintro e' w1 ⟨rfl, hI1, hm⟩
    obtain ⟨c0, c1, c2, c3, c36, _⟩ := OpV.open_ (HQ.out.mod hm (by simpa using hqp))
    have f1 := (HQ.out.mod hm (by simpa using hqp)).frozen 3
    have HI1 := Lib.hid hI1; clear hI1
    have HM := Lib.hid hm; clear hm
    go_wp2
    go_ret
    have hms : Mod [q] w1 (w1.setCell ⟨q, 3, none⟩ (.int .i64 x)) := (Mod.refl [q] w1).setCell _ (by simp) _
    exact ⟨rfl, HI1.out.mod hms (by simpa using hqp.symm) (by simpa using hqg), (HQ.out.mod HM.out (by simpa using hqp)).set_ 3 _, (HM.out.mono (by simp)).trans (hms.mono (by simp))⟩
  | bad why at_ =>
    go_enter Try.func97, Try.ntmps97
    go_wp2_with fail
    refine HN.out.mono ?_
    rintro e' w1 ⟨b, rfl, hb, hI1, hm, hbq⟩
    obtain ⟨c0, c1, c2, c3, c36, _⟩ := OpV.open_ (HQ.out.mod hm (by simpa using hqp))
    have f1 := (HQ.out.mod hm (by simpa using hqp)).frozen 3
    have HI1 := Lib.hid hI1; clear hI1
    have HB := Lib.hid hb; clear hb
    have HM := Lib.hid hm; clear hm
    unfold badV
    go_wp2
    go_ret
    have hms : Mod [q] w1 (w1.setCell ⟨q, 3, none⟩ (.int .i64 0)) := (Mod.refl [q] w1).setCell _ (by simp) _
    have hbl : b ≠ q := by have := HQ.out.lt; omega
    exact ⟨b, rfl, Blk.mod HB.out hms (by simpa using hbl), HI1.out.mod hms (by simpa using hqp.symm) (by simpa using hqg), (HM.out.mono (by simp)).trans (hms.mono (by simp)), hbq⟩
theorem GOp.set36 (o : GOp) (n : Int) : o.cells.toArray.setIfInBounds 36 (.int .i64 n) = ({ o with at_ := ⟨o.at_.node, n⟩ } : GOp).cells.toArray := by
  have h := o.at_.node.cells_length
  apply Array.toList_inj.1
  simp [GOp.cells, GIdent.cells, List.set_append, h]
theorem GOp.part4 (o : GOp) (h : GHash) (n : Int) (ho : o.at_.op = n) : (o.cells.toArray.toList.take 4 ++ h.cells ++ o.cells.toArray.toList.drop (4 + h.cells.length)).toArray = ({ o with at_ := ⟨h, n⟩ } : GOp).cells.toArray := by
  have h0 := o.at_.node.cells_length
  have h1 := h.cells_length
  rw [h1]
  apply Array.toList_inj.1
  simp [GOp.cells, GIdent.cells, List.drop_append, h0, ho]
theorem atRead_any (o : GOp) (p g q : Nat) (xs : Bytes) (w : World) (n0 : Nat) (hI : InB w p g xs n0 .nilIface) (hn : n0 ≤ xs.length) (hz : xs.length ≤ 140737488355328) (hq : OpV w q o) (hqp : q ≠ p) (hqg : 0 < xs.length → g ≠ q) :
    Calls Try.prog 101 #[ptr p, ptr q] w (ReadP w p g q xs (rdFld .at_ xs n0 o)) := by
  have hnum : Calls Try.prog 65 #[ptr p, .int .u64 1024] w _ := inNumber_any 1024 p g xs w n0 hI hn (by omega)
  have HN := Lib.hid hnum; clear hnum
  have HQ := Lib.hid hq; clear hq
  have hok := @rdNum_ok xs n0 1024
  unfold rdFld
  generalize rdNum xs n0 1024 = r at *
  cases r with
  | ok k pos =>
    obtain ⟨hk, _, hp, _⟩ := hok rfl hn
    clear hok
    go_enter Try.func101, Try.ntmps101
    go_wp2_with fail
    refine HN.out.mono ?_
    rintro e' w1 ⟨rfl, hI1, hm⟩
    have hq1 : OpV w1 q o := HQ.out.mod hm (by simpa using hqp)
    obtain ⟨c0, c1, c2, c3, c36, _⟩ := hq1.open_
    have f1 := hq1.frozen 36
    have HI1 := Lib.hid hI1; clear hI1
    have HM := Lib.hid hm; clear hm
    have HQ1 := Lib.hid hq1; clear hq1
    by_cases hk0 : k = 0
    · subst hk0
      go_wp2
      go_ret
      exact ⟨rfl, HI1.out, HQ1.out, HM.out.mono (by simp)⟩
    · have hq2 := HQ1.out.set_ 36 (.int .i64 (k : Int))
      rw [GOp.set36] at hq2
      have hms : Mod [q] w1 (w1.setCell ⟨q, 36, none⟩ (.int .i64 (k : Int))) := (Mod.refl [q] w1).setCell _ (by simp) _
      have hi2 := HI1.out.mod hms (by simpa using hqp.symm) (by simpa using hqg)
      have HQ2 := Lib.hid hq2; clear hq2
      have HMS := Lib.hid hms; clear hms
      have HI2 := Lib.hid hi2; clear hi2
      have hhash := inHash_any p g xs _ pos HI2.out hp
      have hhd : ∀ a q2, rdHash xs pos = .ok a q2 → True := fun _ _ _ => trivial
      have e0 : (Rd.ok k pos).bind (fun n p => if n = 0 then Rd.ok o p else (rdHash xs p).bind fun h q => Rd.ok ({ o with at_ := ⟨h, n⟩ } : GOp) q) = (rdHash xs pos).bind fun h q => Rd.ok ({ o with at_ := ⟨h, k⟩ } : GOp) q := by simp [Rd.bind, hk0]
      have HE := Lib.hid e0; clear e0
      have HH := Lib.hid hhash; clear hhash
      generalize rdHash xs pos = r2 at *
      have hk1 : ¬ ((k : Int) = 0) := by omega
      cases r2 with
      | ok h pos2 =>
        go_wp2_with fail
        refine HH.out.mono ?_
        rintro e' w3 ⟨rfl, hI3, hm3⟩
        have hq3 := HQ2.out.mod hm3 (by simpa using hqp)
        have hql := hq3.lt
        have HQ3 := Lib.hid hq3; clear hq3
        have HI3 := Lib.hid hI3; clear hI3
        have HM3 := Lib.hid hm3; clear hm3
        go_wp2_with ((with_reducible refine wpList_store_part rtHash (k := 4) (cells := h.cells) _ _ rfl ?hgd ?hx ?hy HQ3.out ?hl ?hk (GHash.one _) ?_); (case hgd => exact rfl); (case hx => exact rfl); (case hy => exact rfl); (case hl => exact h.cells_length); (case hk => rw [List.size_toArray, GOp.cells_length]; omega); intro w4 hv4 hm4; have HV := Lib.hid hv4; have HM4 := Lib.hid hm4; clear hv4 hm4)
        go_ret
        rw [HE.out]
        refine ⟨rfl, HI3.out.mod HM4.out (by simpa using hqp.symm) (by simpa using hqg), ?_, ((HM.out.mono (by simp)).trans (HMS.out.mono (by simp))).trans ((HM3.out.mono (by simp)).trans (HM4.out.mono (by simp)))⟩
        have := HV.out
        rw [GOp.part4 _ h k rfl] at this
        exact this
      | bad why at_ =>
        go_wp2_with fail
        refine HH.out.mono ?_
        rintro e' w3 ⟨b, rfl, hb3, hI3, hm3, hbq⟩
        have hq3 := HQ2.out.mod hm3 (by simpa using hqp)
        have hql := hq3.lt
        have HQ3 := Lib.hid hq3; clear hq3
        have HI3 := Lib.hid hI3; clear hI3
        have HM3 := Lib.hid hm3; clear hm3
        have HB3 := Lib.hid hb3; clear hb3
        unfold badV
        go_wp2_with ((with_reducible refine wpList_store_part rtHash (k := 4) (cells := GHash.zero.cells) _ _ rfl ?hgd ?hx ?hy HQ3.out ?hl ?hk (GHash.one _) ?_); (case hgd => exact rfl); (case hx => exact rfl); (case hy => exact rfl); (case hl => exact GHash.cells_length _); (case hk => rw [List.size_toArray, GOp.cells_length]; omega); intro w4 hv4 hm4; have HV := Lib.hid hv4; have HM4 := Lib.hid hm4; clear hv4 hm4)
        go_ret
        rw [HE.out]
        have hs0 := HMS.out.size
        have hs1 := HM.out.size
        have hbl : b ≠ q := Blk.ne_ HB3.out HQ3.out (by decide)
        exact ⟨b, rfl, Blk.mod HB3.out HM4.out (by simpa using hbl), HI3.out.mod HM4.out (by simpa using hqp.symm) (by simpa using hqg), ((HM.out.mono (by simp)).trans (HMS.out.mono (by simp))).trans ((HM3.out.mono (by simp)).trans (HM4.out.mono (by simp))), by omega⟩
  | bad why at_ =>
    go_enter Try.func101, Try.ntmps101
    go_wp2_with fail
    refine HN.out.mono ?_
    rintro e' w1 ⟨b, rfl, hb, hI1, hm, hbq⟩
    have HI1 := Lib.hid hI1; clear hI1
    have HB := Lib.hid hb; clear hb
    have HM := Lib.hid hm; clear hm
    unfold badV
    go_wp2
    go_ret
    exact ⟨b, rfl, HB.out, HI1.out, HM.out.mono (by simp), hbq⟩
end Go.Proofs.Ytlpjeckhejbkkaa
