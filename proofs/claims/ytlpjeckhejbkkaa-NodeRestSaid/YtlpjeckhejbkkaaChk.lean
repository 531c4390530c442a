import Derived.Test.YtlpjeckhejbkkaaFld2
set_option linter.unusedVariables false
set_option linter.unusedSimpArgs false
set_option maxRecDepth 20000
set_option maxHeartbeats 400000
namespace Go.Proofs.Ytlpjeckhejbkkaa
open Go.RowKit

theorem FS.item {w : World} {g : Nat} {v : Value} {l : List Fld} (h : FS w g v l) (h0 : 0 < l.length) :
    ∃ off cap, v = .slice (some ⟨g, off, none⟩) l.length cap ∧ l.length ≤ cap ∧ cap ≤ maxLen ∧ g < w.heap.size ∧ ∀ (i : Nat) (hi : i < l.length), CellsAt w g (off + i * 3) l[i].cells := RS.item Fld.cells_length h h0
theorem wpList_load_fld {ops : Array Oper} {rest : List Oper} {op : Oper} {a : Act} {w : World} {Q : Exit → Act → World → Prop} (x : Operand) (ho : op.op = .load 120 x) (hgd : Region.wanted op (yielded ops a.tmps) = true) {b k : Nat} {f : Fld} (H : CellsAt w b k f.cells) (hx : a.eval x = .pointer (some ⟨b, k, none⟩))
    (h : wpList Try.prog ops Q rest (a.put op.dst f.val) w) : wpList Try.prog ops Q (op :: rest) a w :=
  wpList_load_cells rtFld x ho hgd hx f.cells_length H h
theorem wpList_store_fld {ops : Array Oper} {rest : List Oper} {op : Oper} {a : Act} {w : World} {Q : Exit → Act → World → Prop} (x y : Operand) (ho : op.op = .store 120 x y) (hgd : Region.wanted op (yielded ops a.tmps) = true) {g : Nat} {f : Fld} {old : Array Value} (hx : a.eval x = .pointer (some ⟨g, 0, none⟩)) (hy : a.eval y = f.val) (hb : Blk w g 120 old) (hold : old.size = 3)
    (h : ∀ w', Blk w' g 120 f.cells.toArray → Mod [g] w w' → wpList Try.prog ops Q rest (a.put op.dst undef) w') : wpList Try.prog ops Q (op :: rest) a w :=
  wpList_store_blk rtFld x y ho hgd hx hy hb f.cells_length hold f.one h
def Fld.fn (f : Fld) : Nat × Nat × Nat := match f with
  | .text => (91, 92, 93)
  | .number => (94, 95, 97)
  | .at_ => (99, 100, 101)
theorem Fld.cells_eq (f : Fld) : f.cells.toArray = #[.func (.func f.fn.1) #[] #[], .func (.func f.fn.2.1) #[] #[], .func (.func f.fn.2.2) #[] #[]] := by cases f <;> rfl
theorem run_enter {P : Program} {f : FuncId} {fn : Func} (hf : P.funcs[f]? = some fn) (hname : (fn.name == "runtime.NumGoroutine") = false) (hb : fn.body.isNone = false) (args : Array Value) (w : World) :
    (callFunc f args).run P w = .ok (.enter f args) w := by
  have h1 : fn.name ≠ "runtime.NumGoroutine" := by simpa using hname
  have hb : fn.body ≠ none := by rintro e; rw [e] at hb; simp at hb
  simp [callFunc, hf, h1, hb]
theorem fld_enter0 (f : Fld) (args : Array Value) (w : World) : (callFunc f.fn.1 args).run Try.prog w = .ok (.enter f.fn.1 args) w := by
  cases f
  · exact run_enter Try.func91 (by kernel_rfl) (by kernel_rfl) args w
  · exact run_enter Try.func94 (by kernel_rfl) (by kernel_rfl) args w
  · exact run_enter Try.func99 (by kernel_rfl) (by kernel_rfl) args w
theorem fld_enter1 (f : Fld) (args : Array Value) (w : World) : (callFunc f.fn.2.1 args).run Try.prog w = .ok (.enter f.fn.2.1 args) w := by
  cases f
  · exact run_enter Try.func92 (by kernel_rfl) (by kernel_rfl) args w
  · exact run_enter Try.func95 (by kernel_rfl) (by kernel_rfl) args w
  · exact run_enter Try.func100 (by kernel_rfl) (by kernel_rfl) args w
theorem fld_enter2 (f : Fld) (args : Array Value) (w : World) : (callFunc f.fn.2.2 args).run Try.prog w = .ok (.enter f.fn.2.2 args) w := by
  cases f
  · exact run_enter Try.func93 (by kernel_rfl) (by kernel_rfl) args w
  · exact run_enter Try.func97 (by kernel_rfl) (by kernel_rfl) args w
  · exact run_enter Try.func101 (by kernel_rfl) (by kernel_rfl) args w
theorem fldZero_any (f : Fld) (o : GOp) (w : World) : Calls Try.prog f.fn.1 #[o.val] w fun e w' => e = .returned (.bool (Fld.zero f o)) ∧ Mod [] w w' := by
  cases f
  · exact textZero_any o w
  · exact numberZero_any o w
  · exact atZero_any o w
theorem fldLay_any (f : Fld) (o : GOp) (p : Nat) (F : List Nat) (xs : Bytes) (w : World) (hO : OutB w p F xs) (hs : Fld.fits f o) (hz : xs.length ≤ 170000000000000) :
    Calls Try.prog f.fn.2.1 #[ptr p, o.val] w (OutP w p F (xs ++ Fld.lay f o)) := by
  cases f
  · exact textLay_any o p F xs w hO hs hz
  · exact numberLay_any o p F xs w hO hs hz
  · exact atLay_any o p F xs w hO hs hz
theorem fldRead_any (f : Fld) (o : GOp) (p g q : Nat) (xs : Bytes) (w : World) (n0 : Nat) (hI : InB w p g xs n0 .nilIface) (hn : n0 ≤ xs.length) (hz : xs.length ≤ 140737488355328) (hq : OpV w q o) (hqp : q ≠ p) (hqg : 0 < xs.length → g ≠ q) :
    Calls Try.prog f.fn.2.2 #[ptr p, ptr q] w (ReadP w p g q xs (rdFld f xs n0 o)) := by
  cases f
  · exact textRead_any o p g q xs w n0 hI hn hz hq hqp hqg
  · exact numberRead_any o p g q xs w n0 hI hn hz hq hqp hqg
  · exact atRead_any o p g q xs w n0 hI hn hz hq hqp hqg
theorem othersF_length (k : Int) : (othersF k).length ≤ 3 := by
  unfold othersF
  split
  · simp
  split
  · simp
  split
  · simp
  split <;> simp
theorem hasF_length (k : Int) : (hasF k).length ≤ 3 := by
  unfold hasF
  split
  · simp
  split
  · simp
  split
  · simp
  split <;> simp
def bad41 (o : GOp) : Prop := (hasText o.kind = false ∧ o.text.size ≠ 0) ∨ (o.kind ≠ 6 ∧ o.n ≠ 0) ∨ (hasAt o.kind = false ∧ o.at_ ≠ GIdent.zero)
theorem bad41_iff (o : GOp) (hk : known o.kind = true) : bad41 o ↔ ∃ f ∈ othersF o.kind, Fld.zero f o = false := by
  unfold known at hk
  have hk := of_decide_eq_true hk
  have h9 : o.kind = 1 ∨ o.kind = 2 ∨ o.kind = 3 ∨ o.kind = 4 ∨ o.kind = 5 ∨ o.kind = 6 ∨ o.kind = 7 ∨ o.kind = 8 ∨ o.kind = 9 := by omega
  rcases h9 with h | h | h | h | h | h | h | h | h <;> simp [bad41, hasText, hasAt, othersF, Fld.zero, h]
theorem wrong40 {l : List GOp} {o : GOp} (h : (!known o.kind) = true) : wrongOp l o = 40 := by
  unfold wrongOp
  rw [if_pos (by simpa using h)]
theorem wrong4 {l : List GOp} {o : GOp} (h : (!known o.kind) = false) (h1 : 65536 < o.key.size ∨ 65536 < o.text.size) : wrongOp l o = 4 := by
  unfold wrongOp
  rw [if_neg (by simpa using h), if_pos h1]
theorem wrong41 {l : List GOp} {o : GOp} (h : (!known o.kind) = false) (h1 : ¬ (65536 < o.key.size ∨ 65536 < o.text.size)) (h2 : bad41 o) : wrongOp l o = 41 := by
  unfold wrongOp
  unfold bad41 at h2
  rw [if_neg (by simpa using h), if_neg h1, if_pos h2]
theorem wrong42 {l : List GOp} {o : GOp} (h : (!known o.kind) = false) (h1 : ¬ (65536 < o.key.size ∨ 65536 < o.text.size)) (h2 : ¬ bad41 o) (h3 : hasAt o.kind = true ∧ atMay l o = false) : wrongOp l o = 42 := by
  unfold wrongOp
  unfold bad41 at h2
  rw [if_neg (by simpa using h), if_neg h1, if_neg h2, if_pos h3]
theorem wrong0 {l : List GOp} {o : GOp} (h : (!known o.kind) = false) (h1 : ¬ (65536 < o.key.size ∨ 65536 < o.text.size)) (h2 : ¬ bad41 o) (h3 : ¬ (hasAt o.kind = true ∧ atMay l o = false)) : wrongOp l o = 0 := by
  unfold wrongOp
  unfold bad41 at h2
  rw [if_neg (by simpa using h), if_neg h1, if_neg h2, if_neg h3]
theorem cell_at (k : Int) : (cellOf k == 4) = hasAt k := by
  unfold cellOf hasAt
  rw [Bool.eq_iff_iff]
  simp only [beq_iff_eq, Bool.or_eq_true]
  split
  · omega
  split
  · omega
  split
  · omega
  split <;> omega
theorem wrong_any (l : List GOp) (o : GOp) (g : Nat) (v : Value) (w : World) (hs : OS w g v l) :
    Calls Try.prog 57 #[v, o.val] w fun e w' => e = .returned (.int .i64 (wrongOp l o)) ∧ Mod [] w w' := by
  go_enter Try.func57, Try.ntmps57
  go_wp2_with (first | ((with_reducible refine wpList_box_op _ rfl ?hgd (o := o) ?hx ?_); (case hgd => exact rfl); (case hx => exact rfl); intro q1 w1 hv1 hm1 hq1 hl1; have HV1 := Lib.hid hv1; obtain ⟨c0, c1, c2, c3, c36, HA0, HA4, HH4⟩ := hv1.open_; have HS1 := Lib.hid (hs.mod hm1 (by simp)); have HM1 := Lib.hid hm1; clear hv1 hm1))
  refine (fields_any o.kind w1).mono ?_
  rintro e' w2 ⟨g1, g2, v1, v2, rfl, hf1, hf2, hm2, _, _⟩
  obtain ⟨A2, cap2, rfl, _, _⟩ := hf2.val
  have HV2 : Hid (OpV w2 q1 o) := Lib.hid (HV1.out.mod hm2 (by simp))
  have HS2 : Hid (OS w2 g v l) := Lib.hid (HS1.out.mod hm2 (by simp))
  have HF2 : Hid (FS w2 g2 _ (othersF o.kind)) := Lib.hid hf2
  have HM2 := Lib.hid (HM1.out.trans hm2)
  clear hf1 hf2 hm2 HV1 HS1 HM1 c0 c1 c2 c3 c36 HA0 HA4 HH4
  obtain ⟨c0, c1, c2, c3, c36, HA0, HA4, HH4⟩ := HV2.out.open_
  go_wp2_with (first | (go_at_call 74; refine (known_any _ _).mono ?_; rintro e' w3 ⟨rfl, rfl⟩))
  all_goals try (go_ret; refine ⟨ret_int ?_, HM2.out⟩; first | (rw [wrong40 (by assumption)]; rfl) | (rw [wrong4 (by assumption) (by omega)]; rfl))
  have HK : Hid ((!known o.kind) = false) := Lib.hid (by assumption)
  have HZ0 : Hid (¬ (65536 < o.key.size ∨ 65536 < o.text.size)) := Lib.hid (by omega)
  have HB := Lib.hid (bad41_iff o (by have := HK.out; simpa using this))
  have hL3 : (othersF o.kind).length ≤ 3 := othersF_length _
  generalize othersF o.kind = L at *
  go_loopw [33] (fun s wr => ∃ j : Nat, s = .int .i64 (j : Int) ∧ j ≤ L.length ∧ Hid (OpV wr q1 o) ∧ Hid (OS wr g v l) ∧ Hid (FS wr g2 (.slice A2 L.length cap2) L) ∧ Hid (Mod [] w wr) ∧ Hid (∀ f ∈ L.take j, Fld.zero f o = true)) (fun s _ => L.length - (intOf s).toNat)
  case atStart => exact ⟨0, rfl, by omega, HV2, HS2, HF2, HM2, Lib.hid (by simp)⟩
  case round =>
    obtain ⟨j, rfl, hj, HV, HS, HF, HM, HZ⟩ := hrel
    clear HV2 HS2 HF2 HM2 c0 c1 c2 c3 c36 HA0 HA4 HH4
    obtain ⟨c0, c1, c2, c3, c36, HA0, HA4, HH4⟩ := HV.out.open_
    by_cases hjl : j < L.length
    · obtain ⟨off, cap', hv', _, _, _, hit⟩ := HF.out.item (by omega)
      injection hv' with hA _ hcap
      subst hA
      subst hcap
      have HC0 := Lib.hid (hit j hjl)
      clear hit
      obtain ⟨f, hf⟩ : ∃ f, L[j] = f := ⟨_, rfl⟩
      rw [hf] at HC0
      have hfm : f ∈ L := by rw [← hf]; exact List.getElem_mem hjl
      have HW : Hid (f ∈ L) := Lib.hid hfm
      have HTK : Hid (L.take (j + 1) = L.take j ++ [f]) := Lib.hid (by rw [List.take_succ_eq_append_getElem hjl, hf])
      clear hfm
      go_wp2_with (first | ((with_reducible refine wpList_load_fld _ rfl ?hgd HC0.out ?hx ?_); (case hgd => exact rfl); (case hx => exact rfl)) | ((with_reducible refine wpList_store_fld (f := f) _ _ rfl ?hgd ?hx ?hy (Blk.new _ _ _) ?hold ?_); (case hgd => exact rfl); (case hx => exact rfl); (case hy => exact rfl); (case hold => exact rfl); intro w4 hv4 hm4; have c4 := hv4.cell 0; rw [Fld.cells_eq] at c4; simp only [List.getElem?_toArray, List.getElem?_cons_zero] at c4; have hm5 := (((Mod.refl [] wr).alloc _).then hm4 (by simp)); have HV4 : Hid (OpV w4 q1 o) := Lib.hid (HV.out.mod hm5 (by simp)); have HO : Hid (OpAt w4 q1 0 o) := Lib.hid (CellsAt.of_blk HV4.out); have HS4 : Hid (OS w4 g v l) := Lib.hid (HS.out.mod hm5 (by simp)); have HF4 : Hid (FS w4 g2 _ L) := Lib.hid (HF.out.mod hm5 (by simp)); have HM4 := Lib.hid (HM.out.trans hm5); clear hv4 hm4 hm5) | ((with_reducible refine wpList_load_op _ rfl ?hgd HO.out ?hx ?_); (case hgd => exact rfl); (case hx => exact rfl)))
      rw [fld_enter0, Oper.upon_enter]
      refine (fldZero_any f o w4).mono ?_
      rintro e' w5 ⟨rfl, hm5⟩
      have HV5 : Hid (OpV w5 q1 o) := Lib.hid (HV4.out.mod hm5 (by simp))
      have HS5 : Hid (OS w5 g v l) := Lib.hid (HS4.out.mod hm5 (by simp))
      have HF5 : Hid (FS w5 g2 _ L) := Lib.hid (HF4.out.mod hm5 (by simp))
      have HM5 := Lib.hid (HM4.out.trans hm5)
      clear hm5 HV4 HS4 HF4 HM4 HV HS HF HM c0 c1 c2 c3 c36 HA0 HA4 HH4 c4
      go_wp2
      · go_ret
        refine ⟨ret_int ?_, HM5.out⟩
        rw [wrong41 HK.out HZ0.out (HB.out.2 ⟨f, HW.out, by simp_all⟩)]
        rfl
      · go_roundw
        case rel => exact ⟨j + 1, by go_num, by omega, HV5, HS5, HF5, HM5, Lib.hid (by rw [HTK.out]; intro f' hf'; rcases List.mem_append.1 hf' with h | h; exact HZ.out f' h; rw [List.mem_singleton.1 h]; simp_all)⟩
        case measure => simp [intOf]; omega
    · have hje : j = L.length := by omega
      subst hje
      have HNB : Hid (¬ bad41 o) := Lib.hid (fun h => by
        obtain ⟨f, hf, h0⟩ := HB.out.1 h
        have := HZ.out f (by simpa using hf)
        rw [h0] at this
        cases this)
      have HO : Hid (OpAt wr q1 0 o) := Lib.hid (CellsAt.of_blk HV.out)
      clear hj HZ HB
      cases hat : hasAt o.kind
      · have hc4 : (cellOf o.kind == 4) = false := by rw [cell_at]; exact hat
        go_wp2_with (first | (go_at_call 75; refine (cell_any _ _).mono ?_; rintro e' w3 ⟨rfl, rfl⟩) | ((with_reducible refine wpList_load_op _ rfl ?hgd HO.out ?hx ?_); (case hgd => exact rfl); (case hx => exact rfl)))
        go_ret
        refine ⟨ret_int ?_, HM.out⟩
        rw [wrong0 HK.out HZ0.out HNB.out (by rw [hat]; simp)]
        rfl
      · have hc4 : (cellOf o.kind == 4) = true := by rw [cell_at]; exact hat
        go_wp2_with (first | (go_at_call 75; refine (cell_any _ _).mono ?_; rintro e' w3 ⟨rfl, rfl⟩) | ((with_reducible refine wpList_load_op _ rfl ?hgd HO.out ?hx ?_); (case hgd => exact rfl); (case hx => exact rfl)))
        refine (right_any l o g v wr HS.out).mono ?_
        rintro e' w4 ⟨rfl, hm4⟩
        have HM4 := Lib.hid (HM.out.trans hm4)
        clear hm4
        cases hmay : atMay l o
        · go_wp2
          go_ret
          refine ⟨ret_int ?_, HM4.out⟩
          rw [wrong42 HK.out HZ0.out HNB.out ⟨hat, hmay⟩]
          rfl
        · go_wp2
          go_ret
          refine ⟨ret_int ?_, HM4.out⟩
          rw [wrong0 HK.out HZ0.out HNB.out (by rw [hmay]; simp)]
          rfl
end Go.Proofs.Ytlpjeckhejbkkaa
