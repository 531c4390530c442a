import Derived.Defers
import Derived.Recover
import Derived.Test.YtlpjeckhejbkkaaNVal
import Derived.Test.YtlpjeckhejbkkaaGet
set_option linter.unusedVariables false
set_option linter.unusedSimpArgs false
set_option maxRecDepth 20000
set_option maxHeartbeats 800000
namespace Go.Proofs.Ytlpjeckhejbkkaa
open Go.RowKit

/-! ### the reader of a block: what it reads, or a panic with the first thing that is wrong -/
theorem stop_any (r p q : Nat) (re : Value) (w : World) (hr : Blk w r 67 #[ptr p, re]) :
    Calls Try.prog 52 #[ptr r, badV q] w fun e w' => e = .panicked [{ v := badV q, recovered := false }] ∧ Blk w' r 67 #[ptr p, badV q] ∧ Mod [r] w w' := by
  have c0 := hr.cell 1
  have f0 := hr.frozen 1
  have HR := Lib.hid hr; clear hr
  unfold badV
  go_enter Try.func52, Try.ntmps52
  go_wp2
  exact ⟨rfl, rfl, HR.out.set_ 1 _, (Mod.refl [r] w).setCell _ (by simp) _⟩
def RdrB (w : World) (r p g : Nat) (xs : Bytes) (n0 : Nat) : Prop := Blk w r 67 #[ptr p, .nilIface] ∧ InB w p g xs n0 .nilIface ∧ (0 < xs.length → g ≠ r)
theorem RdrB.ne {w : World} {r p g : Nat} {xs : Bytes} {n0 : Nat} (h : RdrB w r p g xs n0) : r ≠ p := by
  obtain ⟨v, hb, _⟩ := h.2.1
  exact Blk.ne_ h.1 hb (by decide)
theorem RdrB.mod {S : List Nat} {w w' : World} {r p g : Nat} {xs : Bytes} {n0 : Nat} (h : RdrB w r p g xs n0) (hm : Mod S w w') (hp : p ∉ S) (hr : r ∉ S) (hg : 0 < xs.length → g ∉ S) : RdrB w' r p g xs n0 :=
  ⟨h.1.mod hm hr, h.2.1.mod hm hp hg, h.2.2⟩
theorem RdrB.mod0 {w w' : World} {r p g : Nat} {xs : Bytes} {n0 : Nat} (h : RdrB w r p g xs n0) (hm : Mod [] w w') : RdrB w' r p g xs n0 := h.mod hm (by simp) (by simp) (by simp)
theorem RdrB.step {w w' : World} {r p g : Nat} {xs : Bytes} {n0 n1 : Nat} (h : RdrB w r p g xs n0) (hI : InB w' p g xs n1 .nilIface) (hm : Mod [p] w w') : RdrB w' r p g xs n1 :=
  ⟨h.1.mod hm (by simpa using h.ne), hI, h.2.2⟩
theorem RdrB.cells {w : World} {r p g : Nat} {xs : Bytes} {n0 : Nat} (h : RdrB w r p g xs n0) : w.cell? ⟨r, 0, none⟩ = some (ptr p) ∧ r < w.heap.size ∧ p < w.heap.size := ⟨h.1.cell 0, h.1.lt, h.2.1.lt⟩
def StopP (w : World) (r p : Nat) (why at_ : Nat) (e' : Ending) (w' : World) : Prop :=
  ∃ q, e' = .panicked [{ v := badV q, recovered := false }] ∧ BadAt w' q why at_ ∧ Blk w' r 67 #[ptr p, badV q] ∧ Mod [p, r] w w' ∧ w.heap.size ≤ q
/-- what a reader's method answers, or how it stops -/
def RxP {α : Type} (w : World) (r p g : Nat) (xs : Bytes) (res : Rd α) (val : α → Value) (e' : Ending) (w' : World) : Prop :=
  match res with
  | .ok a pos => e' = .returned (val a) ∧ RdrB w' r p g xs pos ∧ Mod [p, r] w w'
  | .bad why at_ => StopP w r p why at_ e' w'
theorem stopP {w w1 w2 : World} {r p q : Nat} {why at_ : Nat} (hb : BadAt w1 q why at_) (hm : Mod [p] w w1) (hq : w.heap.size ≤ q) (hr : Blk w2 r 67 #[ptr p, badV q]) (hm2 : Mod [r] w1 w2) (hlt : r < w.heap.size) :
    StopP w r p why at_ (.panicked [{ v := badV q, recovered := false }]) w2 :=
  ⟨q, rfl, Blk.mod hb hm2 (by simp; omega), hr, (hm.mono (by simp)).trans (hm2.mono (by simp)), hq⟩
theorem rdrByte_any (r p g : Nat) (xs : Bytes) (w : World) (n0 : Nat) (h : RdrB w r p g xs n0) (hn : n0 ≤ xs.length) :
    Calls Try.prog 46 #[ptr r] w (RxP w r p g xs (rdByte xs n0) bv) := by
  obtain ⟨c0, hl, _⟩ := h.cells
  have HB := Lib.hid (inByte_any p g xs w n0 h.2.1 hn)
  have HR := Lib.hid h; clear h
  generalize rdByte xs n0 = res at *
  cases res with
  | ok a pos =>
    go_enter Try.func46, Try.ntmps46
    go_wp2_with fail
    refine HB.out.mono ?_
    rintro e' w1 ⟨rfl, hI1, hm1⟩
    have HR1 := Lib.hid (HR.out.step hI1 hm1)
    go_wp2_with fail
    go_ret
    exact ⟨rfl, HR1.out, hm1.mono (by simp)⟩
  | bad why at_ =>
    go_enter Try.func46, Try.ntmps46
    go_wp2_with fail
    refine HB.out.mono ?_
    rintro e' w1 ⟨q, rfl, hb, hI1, hm1, hq⟩
    have HB1 := Lib.hid hb
    have HM1 := Lib.hid hm1
    have HST := Lib.hid (stop_any r p q .nilIface w1 (HR.out.1.mod hm1 (by simpa using HR.out.ne)))
    clear hb hI1 hm1
    unfold badV
    go_wp2_with fail
    refine HST.out.mono ?_
    rintro e' w2 ⟨rfl, hr2, hm2⟩
    exact ⟨rfl, stopP HB1.out HM1.out hq hr2 hm2 hl⟩
theorem rdrBad_no (r : Nat) (why at_ : Int) (w : World) : Calls Try.prog 45 #[ptr r, .bool false, .int .i64 why, .int .i64 at_] w fun e w' => e = .returned (.tuple #[]) ∧ w = w' := by
  go_enter Try.func45, Try.ntmps45
  go_wp2
  go_end0
  exact ⟨rfl, rfl⟩
theorem rdrBad_yes (r p g : Nat) (xs : Bytes) (n0 : Nat) (why at_ : Nat) (w : World) (h : RdrB w r p g xs n0) :
    Calls Try.prog 45 #[ptr r, .bool true, .int .i64 why, .int .i64 at_] w (StopP w r p why at_) := by
  obtain ⟨c0, hl, _⟩ := h.cells
  have HR := Lib.hid h; clear h
  go_enter Try.func45, Try.ntmps45
  go_wp2_with fail
  have hm1 : Mod [p] w (w.alloc (.cells #[.int .i64 why, .int .i64 at_] 62)) := (Mod.refl [p] w).alloc _
  have hb : BadAt (w.alloc (.cells #[.int .i64 why, .int .i64 at_] 62)) w.heap.size why at_ := Blk.new w _ _
  have HST := Lib.hid (stop_any r p w.heap.size .nilIface _ (HR.out.1.alloc (.cells #[.int .i64 why, .int .i64 at_] 62)))
  refine HST.out.mono ?_
  rintro e' w2 ⟨rfl, hr2, hm2⟩
  exact ⟨rfl, stopP hb hm1 (Nat.le_refl _) hr2 hm2 hl⟩
theorem rdrNumber_any (most : Nat) (r p g : Nat) (xs : Bytes) (w : World) (n0 : Nat) (h : RdrB w r p g xs n0) (hn : n0 ≤ xs.length) (hm : most < 9223372036854775808) :
    Calls Try.prog 47 #[ptr r, .int .i64 most] w (RxP w r p g xs (rdNum xs n0 most) (fun x => .int .i64 (x : Nat))) := by
  obtain ⟨c0, hl, _⟩ := h.cells
  have HB := Lib.hid (inNumber_any most p g xs w n0 h.2.1 hn (by omega))
  have hok := @rdNum_ok xs n0 most
  have HR := Lib.hid h; clear h
  have hw : IntKind.u64.wrap (most : Int) = (most : Int) := by rw [IntKind.wrap_u64]; omega
  generalize rdNum xs n0 most = res at *
  cases res with
  | ok a pos =>
    obtain ⟨hx, _, _, _⟩ := hok rfl hn
    have hw2 : IntKind.i64.wrap (a : Int) = (a : Int) := IntWalk.i64_in _ (by omega)
    clear hok
    go_enter Try.func47, Try.ntmps47
    go_wp2_with fail
    refine HB.out.mono ?_
    rintro e' w1 ⟨rfl, hI1, hm1⟩
    have HR1 := Lib.hid (HR.out.step hI1 hm1)
    go_wp2_with fail
    go_ret
    exact ⟨rfl, HR1.out, hm1.mono (by simp)⟩
  | bad why at_ =>
    clear hok
    go_enter Try.func47, Try.ntmps47
    go_wp2_with fail
    refine HB.out.mono ?_
    rintro e' w1 ⟨q, rfl, hb, hI1, hm1, hq⟩
    have HB1 := Lib.hid hb
    have HM1 := Lib.hid hm1
    have HST := Lib.hid (stop_any r p q .nilIface w1 (HR.out.1.mod hm1 (by simpa using HR.out.ne)))
    clear hb hI1 hm1
    unfold badV
    go_wp2_with fail
    refine HST.out.mono ?_
    rintro e' w2 ⟨rfl, hr2, hm2⟩
    exact ⟨rfl, stopP HB1.out HM1.out hq hr2 hm2 hl⟩
theorem rdrHash_any (r p g : Nat) (xs : Bytes) (w : World) (n0 : Nat) (h : RdrB w r p g xs n0) (hn : n0 ≤ xs.length) :
    Calls Try.prog 49 #[ptr r] w (RxP w r p g xs (rdHash xs n0) GHash.val) := by
  obtain ⟨c0, hl, _⟩ := h.cells
  have HIN := Lib.hid (fun W (hW : InB W p g xs n0 .nilIface) => inHash_any p g xs W n0 hW hn)
  have HR := Lib.hid h; clear h
  generalize rdHash xs n0 = res at *
  cases res with
  | ok a pos =>
    go_enter Try.func49, Try.ntmps49
    go_wp2_with fail
    rw [zero32]
    have HR0 := Lib.hid (HR.out.mod0 ((Mod.refl [] w).alloc (.cells GHash.zero.cells.toArray 46)))
    refine (HIN.out _ HR0.out.2.1).mono ?_
    rintro e' w1 ⟨rfl, hI1, hm1⟩
    have HR1 := Lib.hid (HR0.out.step hI1 hm1)
    have hb1 : Blk w1 w.heap.size 46 GHash.zero.cells.toArray := (Blk.new w _ _).mod hm1 (by have := HR.out.cells; simp; omega)
    have HB1 := Lib.hid hb1
    have HM1 : Hid (Mod [p, r] w w1) := Lib.hid ((((Mod.refl [p, r] w).alloc _).then hm1 (by simp)))
    have HSZ : Hid (w.heap.size < w1.heap.size) := Lib.hid hb1.lt
    clear hb1 hm1 hI1 HR0
    go_wp2_with (first | ((with_reducible refine wpList_store_hashN (o := a) _ _ rfl ?hgd ?hx ?hy (Blk.new _ _ _) ?hold ?_); (case hgd => exact rfl); (case hx => exact rfl); (case hy => exact rfl); (case hold => exact rfl); intro w2 hb2 hm2; have HB2 : Hid (HashAt w2 w1.heap.size 0 a) := Lib.hid (CellsAt.of_blk hb2); have HM2 : Hid (Mod [] w1 w2) := Lib.hid (((Mod.refl [] w1).alloc _).then hm2 (by simp)); have HB3 : Hid (Blk w2 w.heap.size 46 GHash.zero.cells.toArray) := Lib.hid (HB1.out.mod HM2.out (by simp)); clear hb2 hm2) | ((with_reducible refine wpList_load_hash _ rfl ?hgd HB2.out ?hx ?_); (case hgd => exact rfl); (case hx => exact rfl)) | ((with_reducible refine wpList_store_hashN (o := a) _ _ rfl ?hgd ?hx ?hy HB3.out ?hold ?_); (case hgd => exact rfl); (case hx => exact rfl); (case hy => exact rfl); (case hold => exact rfl); intro w3 hb3 hm3; have HB4 := Lib.hid hb3; have HM3 := Lib.hid hm3; clear hb3 hm3))
    refine bodyPost_ret (results_row rtHash rfl rfl HB4.out (by simp [GHash.cells_length])) rfl ?_
    have hlt := HR.out.cells
    have hg : 0 < xs.length → g ≠ w.heap.size := fun h0 => by
      obtain ⟨v, _, hr, _⟩ := HR.out.2.1
      obtain ⟨_, _, _, _, _, hl', _⟩ := hr.at_ h0
      omega
    refine ⟨rfl, (HR1.out.mod0 HM2.out).mod HM3.out (by simp; omega) (by simp; omega) (fun h0 => by simpa using hg h0), (HM1.out.trans (HM2.out.mono (by simp))).then HM3.out (by simp)⟩
  | bad why at_ =>
    go_enter Try.func49, Try.ntmps49
    go_wp2_with fail
    rw [zero32]
    have HR0 := Lib.hid (HR.out.mod0 ((Mod.refl [] w).alloc (.cells GHash.zero.cells.toArray 46)))
    refine (HIN.out _ HR0.out.2.1).mono ?_
    rintro e' w1 ⟨q, rfl, hb, hI1, hm1, hq⟩
    have hm01 : Mod [p] w w1 := ((Mod.refl [p] w).alloc _).trans hm1
    have HB1 := Lib.hid hb
    have HM1 := Lib.hid hm01
    have HQ : Hid (w.heap.size ≤ q) := Lib.hid (by simp at hq; omega)
    have HRB : Hid (Blk w1 r 67 #[ptr p, .nilIface]) := Lib.hid (HR.out.1.mod hm01 (by simpa using HR.out.ne))
    clear hb hI1 hm1 hm01 hq HR0
    unfold badV
    go_wp2_with (first | ((with_reducible refine wpList_store_hashN (o := GHash.zero) _ _ rfl ?hgd ?hx ?hy (Blk.new _ _ _) ?hold ?_); (case hgd => exact rfl); (case hx => exact rfl); (case hy => exact rfl); (case hold => exact rfl); intro w2 hb2 hm2; have HM2 : Hid (Mod [] w1 w2) := Lib.hid (((Mod.refl [] w1).alloc _).then hm2 (by simp)); clear hb2 hm2))
    have HST := Lib.hid (stop_any r p q .nilIface w2 (HRB.out.mod HM2.out (by simp)))
    refine HST.out.mono ?_
    rintro e' w3 ⟨rfl, hr3, hm3⟩
    exact ⟨rfl, stopP (Blk.mod HB1.out HM2.out (by simp)) (HM1.out.trans (HM2.out.mono (by simp))) HQ.out hr3 hm3 hl⟩
end Go.Proofs.Ytlpjeckhejbkkaa
