import Derived.Test.YtdiplliemdogfaaRIn5
import Derived.Test.YtdiplliemdogfaaOne
import Derived.Test.YtdiplliemdogfaaRegOps
set_option linter.unusedVariables false
set_option linter.unusedSimpArgs false
set_option maxRecDepth 20000
set_option maxHeartbeats 3200000
namespace Go.Proofs.Ytdiplliemdogfaa
open Go.RowKit

theorem zeroHash_run (w : World) : (zeroValue 29).run Try.prog w = .ok (.agg GHash.zero.cells.toArray) w := zero_run (by kernel_rfl) w
theorem wpList_alloc_hash {ops : Array Oper} {rest : List Oper} {op : Oper} {a : Act} {w : World} {Q : Exit → Act → World → Prop} (ho : op.op = .alloc 29) (hgd : Region.wanted op (yielded ops a.tmps) = true)
    (h : ∀ q w1, Blk w1 q 29 GHash.zero.cells.toArray → Mod [] w w1 → w.heap.size ≤ q → q < w1.heap.size → wpList Try.prog ops Q rest (a.put op.dst (.pointer (some ⟨q, 0, none⟩))) w1) : wpList Try.prog ops Q (op :: rest) a w :=
  wpList_alloc zeroHash_run ho hgd h
theorem wpList_store_hash {ops : Array Oper} {rest : List Oper} {op : Oper} {a : Act} {w : World} {Q : Exit → Act → World → Prop} (x y : Operand) (ho : op.op = .store 29 x y) (hgd : Region.wanted op (yielded ops a.tmps) = true) {g : Nat} {o old : GHash} (hx : a.eval x = .pointer (some ⟨g, 0, none⟩)) (hy : a.eval y = o.val) (hb : Blk w g 29 old.cells.toArray)
    (h : ∀ w', Blk w' g 29 o.cells.toArray → Mod [g] w w' → wpList Try.prog ops Q rest (a.put op.dst undef) w') : wpList Try.prog ops Q (op :: rest) a w :=
  wpList_store_blk rtHash x y ho hgd hx hy hb o.cells_length (by simp [GHash.cells_length]) o.one h
/-- the cells of a hash into which so many bytes were written -/
def hashOf (b : Bytes) (i : Nat) : Bytes := b.take i ++ List.replicate (32 - i) 0
theorem hashOf_length (b : Bytes) (i : Nat) (hi : i ≤ b.length) (hb : b.length ≤ 32) : (hashOf b i).length = 32 := by
  unfold hashOf; simp; omega
def mkHash (b : Bytes) : GHash := if h : b.length ≤ 32 then ⟨hashOf b b.length, hashOf_length b _ (Nat.le_refl _) h⟩ else GHash.zero
theorem mkHash_nil : mkHash [] = GHash.zero := rfl
theorem mkHash_32 (b : Bytes) (h : b.length = 32) : (mkHash b).l = b := by
  unfold mkHash
  rw [dif_pos (by omega)]
  simp only [hashOf]
  rw [h, Nat.sub_self, List.take_of_length_le (by omega)]
  simp
theorem mkHash_cells (b : Bytes) (h : b.length ≤ 32) : (mkHash b).cells = (hashOf b b.length).map bv := by
  unfold mkHash GHash.cells
  rw [dif_pos h]
theorem hashOf_zero (b : Bytes) : (hashOf b 0).map bv = GHash.zero.cells := rfl
theorem hashOf_succ (b : Bytes) (i : Nat) (hi : i < b.length) (hb : b.length ≤ 32) : ((hashOf b i).map bv).toArray.setIfInBounds i (bv b[i]) = ((hashOf b (i + 1)).map bv).toArray := by
  apply Array.toList_inj.1
  have e : b.take (i + 1) = b.take i ++ [b[i]] := List.take_succ_eq_append_getElem hi
  have e2 : 32 - i = (32 - (i + 1)) + 1 := by omega
  have e3 : (b.take i).length = i := by rw [List.length_take]; omega
  simp only [Array.toList_setIfInBounds, hashOf]
  rw [← List.map_set, e, e2, List.replicate_succ, List.set_append_right i b[i] (by omega), e3, Nat.sub_self, List.set_cons_zero, List.append_assoc]
  rfl
theorem rdHash_raw (xs : Bytes) (m : Nat) : rdHash xs m = (rdRaw xs m 32).bind fun b p => .ok (mkHash b) p := by
  unfold rdHash rdRaw
  by_cases h : m + 32 ≤ xs.length
  · rw [dif_pos h, if_neg (by omega)]
    simp only [Rd.bind]
    congr 1
    have e := mkHash_32 ((xs.drop m).take 32) (by simp; omega)
    cases hh : mkHash ((xs.drop m).take 32) with
    | mk l hl => rw [hh] at e; simp only at e; subst e; rfl
  · rw [dif_neg h, if_pos (by omega)]
    rfl
theorem hashRd_fin {w wr : World} {p g : Nat} {xs : Bytes} {r : Rd GHash} {R : Rd Bytes} {y a : Int} {B : Bytes} (hr : r = R.bind fun b p => .ok (mkHash b) p) (he : errV y a = R.errv) (hB : R.bytes = B) (hI : RIn wr p g xs R.st) (hm : Mod [p] w wr) :
    RdQ w p g xs GHash.val GHash.zero.val r (.returned (.tuple #[.agg (mkHash B).cells.toArray, .agg #[.int .i64 y, .int .i64 a]])) wr := by
  subst hr hB
  refine ⟨?_, ?_, hm⟩
  · cases R with
    | ok b q => show _ = Ending.returned (.tuple #[(mkHash b).val, errV 0 0]); rw [show errV 0 0 = errV y a from he.symm]; rfl
    | bad y' a' => show _ = Ending.returned (.tuple #[GHash.zero.val, errV y' a']); rw [show errV y' a' = errV y a from he.symm]; rfl
  · cases R with
    | ok b q => exact hI
    | bad y' a' => exact hI
theorem refHashRd_any (p g : Nat) (xs : Bytes) (s : Rd Unit) (w : World) (hI : RIn w p g xs s) (hz : xs.length ≤ 140737488355328) :
    Calls Try.prog 68 #[ptr p] w (RdQ w p g xs GHash.val GHash.zero.val (s.bind fun _ m => rdHash xs m)) := by
  have HI := Lib.hid hI; clear hI
  have HZ := Lib.hid hz; clear hz
  go_enter Try.func68, Try.ntmps68
  go_upto_region 1 with ((with_reducible refine wpList_alloc_hash rfl ?hgd ?_); (case hgd => exact rfl); intro q2 w2 hb2 hm2 hq2 hl2; have HB2 := Lib.hid hb2; have HM2 := Lib.hid hm2; clear hb2 hm2)
  have HE3 := Lib.hid (RE.new (HI.out.mod HM2.out (by simp) (by simp)) 0 0)
  have HB3 := Lib.hid (HB2.out.alloc (.cells #[.int .i64 0, .int .i64 0] 57))
  have HQ2 : Hid (w.heap.size ≤ q2 ∧ q2 < w2.heap.size) := Lib.hid ⟨hq2, hl2⟩
  clear hq2 hl2
  obtain ⟨w3, hw3⟩ : ∃ w3, (w2.alloc (.cells #[.int .i64 0, .int .i64 0] 57)) = w3 := ⟨_, rfl⟩
  obtain ⟨eb, heb⟩ : ∃ eb, w2.heap.size = eb := ⟨_, rfl⟩
  rw [hw3] at HE3 HB3 ⊢
  rw [heb] at HE3 ⊢
  have HEB := Lib.hid heb
  clear hw3 heb HB2
  go_wp2_with (first | ((with_reducible refine wpList_alloc_hash rfl ?hgd ?_); (case hgd => exact rfl); intro q4 w4 hb4 hm4 hq4 hl4; have HB4 := Lib.hid hb4; have HM4 := Lib.hid hm4; clear hb4 hm4) | ((with_reducible refine wpList_store_hash (o := GHash.zero) _ _ rfl ?hgd ?hx ?hy HB4.out ?_); (case hgd => exact rfl); (case hx => exact rfl); (case hy => exact rfl); intro w5 hb5 hm5; have HB5 := Lib.hid hb5; have HM5 : Hid (Mod [] w3 w5) := Lib.hid (HM4.out.then hm5 (by simp; omega)); clear hb5 hm5))
  have HE5 := Lib.hid (HE3.out.mod HM5.out)
  have HB25 := Lib.hid (HB3.out.mod HM5.out (by simp))
  have HR : Hid ((s.bind fun _ m => rdHash xs m) = (s.bind fun _ m => rdRaw xs m 32).bind fun b p => .ok (mkHash b) p) := Lib.hid (by rw [Rd.bind_assoc]; congr 1; funext _ m; exact rdHash_raw xs m)
  have HOK : Hid ((s.bind fun _ m => rdRaw xs m 32).bytes.length ≤ 32) := Lib.hid (by
    cases s with
    | bad y a => show ([] : Bytes).length ≤ 32; simp
    | ok u m =>
      show (rdRaw xs m 32).bytes.length ≤ 32
      unfold rdRaw
      split
      · show ([] : Bytes).length ≤ 32; simp
      · show ((xs.drop m).take 32).length ≤ 32; simp; omega)
  have hraw : Calls Try.prog 29 #[ptr p, .int .i64 32] w5 _ := refRaw_any 32 p g xs s w5 HE5.out.1 (by omega) HZ.out
  have HRAW := Lib.hid hraw
  clear hraw
  generalize (s.bind fun _ m => rdRaw xs m 32) = R at HRAW HR HOK
  refine HRAW.out.mono ?_
  rintro e' w6 ⟨A3, n3, c3', rfl, ho3, hI3, hm3, hf3⟩
  have HE6 := Lib.hid (HE5.out.read hI3 hm3)
  have hp := HE5.out.1.lt
  have hpw := HI.out.lt
  have HB26 := Lib.hid (HB25.out.mod hm3 (by have := HQ2.out; simp; omega))
  have hw3p : p < w3.heap.size := HE3.out.1.lt
  have HB46 := Lib.hid (HB5.out.mod hm3 (by simp; omega))
  have HO6 := Lib.hid ho3
  have hsz56 := hm3.size
  obtain ⟨y, a, hya⟩ : ∃ y a : Nat, R.errv = errV y a := by cases R with | ok b q => exact ⟨0, 0, rfl⟩ | bad y a => exact ⟨y, a, rfl⟩
  have HYA := Lib.hid hya
  rw [hya]
  have hq45 : q4 < w5.heap.size := HB5.out.lt
  have HF6 := Lib.hid hf3
  obtain ⟨_, c4, he, hc4, hc5⟩ := ho3.val
  injection he with hx1 hx2 hx3
  subst hx1 hx2 hx3
  clear hya ho3 hI3 hm3 HRAW hf3
  unfold errV
  have HE7 := Lib.hid (HE6.out.mod ((Mod.refl [] w6).alloc (.cells #[.int .i64 y, .int .i64 a] 57)))
  have HB27 := Lib.hid (HB26.out.alloc (.cells #[.int .i64 y, .int .i64 a] 57))
  have HB47 := Lib.hid (HB46.out.alloc (.cells #[.int .i64 y, .int .i64 a] 57))
  have HO7 := Lib.hid (HO6.out.mod ((Mod.refl [] w6).alloc (.cells #[.int .i64 y, .int .i64 a] 57)) (by simp))
  have HX7 := Lib.hid (Blk.new w6 57 #[.int .i64 y, .int .i64 a])
  have HEL := Lib.hid (show q2 < w3.heap.size ∧ eb < w3.heap.size ∧ w3.heap.size ≤ q4 ∧ q4 < w5.heap.size ∧ w5.heap.size ≤ w6.heap.size ∧ q2 < eb from ⟨HB3.out.lt, HE3.out.2.1.lt, hq4, hq45, hsz56, by have := HQ2.out; have := HEB.out; omega⟩)
  obtain ⟨e6, he6⟩ : ∃ e6, w6.heap.size = e6 := ⟨_, rfl⟩
  have HE6L := Lib.hid he6
  go_wp2_with fail
  rw [he6] at HX7
  generalize w6.alloc (.cells #[.int .i64 y, .int .i64 a] 57) = w7 at *
  obtain ⟨B, hB⟩ : ∃ B, R.bytes = B := ⟨_, rfl⟩
  have HBB := Lib.hid hB
  rw [hB] at HOK HO7 HF6 hc4 ⊢
  have hB32 := HOK.out
  obtain ⟨gb, hbs, hgb⟩ := HO7.out.bs
  have HGB : Hid (0 < B.length → w5.heap.size ≤ gb) := Lib.hid (fun h0 => HF6.out gb (by simpa [blks] using hgb h0))
  have HBS := Lib.hid hbs
  have hc9 : c3' ≤ 9223372036854775807 := by unfold maxLen at hc5; omega
  clear hB hbs hgb he6 HO6 hc5
  have HB0 : Hid (Blk w7 q4 29 ((hashOf B 0).map bv).toArray) := Lib.hid HB47.out
  go_loopw [7] (fun s7 wr => ∃ i : Nat, s7 = .int .i64 (i : Int) ∧ i ≤ B.length ∧ Hid (Blk wr q4 29 ((hashOf B i).map bv).toArray) ∧ Hid (Mod [q4] w7 wr)) (fun s _ => B.length - (intOf s).toNat)
  case atStart => exact ⟨0, rfl, by omega, HB0, Lib.hid (Mod.refl _ _)⟩
  case round =>
    obtain ⟨i, rfl, hi, HBi, HMi⟩ := hrel
    clear HB0
    by_cases hil : i < B.length
    · have hgq : gb ≠ q4 := by have := HGB.out (by omega); omega
      obtain ⟨off, cap', hv, _, _, _, hcell⟩ := (RS.mod HBS.out HMi.out (by intro _; simpa using hgq)).at_ (by omega)
      injection hv with hA _ hcap
      subst hA
      subst hcap
      have hc := hcell i (bv B[i]) (by simp [hil])
      have hq0 := HBi.out.cell i
      have hqf := HBi.out.frozen i
      obtain ⟨v0, hv0⟩ : ∃ v0, ((hashOf B i).map bv).toArray[i]? = some v0 := by
        refine ⟨_, Array.getElem?_eq_getElem ?_⟩
        simp only [List.size_toArray, List.length_map]
        rw [hashOf_length B i (by omega) hB32]
        omega
      rw [hv0] at hq0
      have hset := HBi.out.set_ i (bv B[i])
      rw [hashOf_succ B i hil hB32] at hset
      have HSET := Lib.hid hset
      clear hcell hv0 hset
      unfold bv at hc
      have hi32 : (i : Int) < 32 := by omega
      go_wp2
      go_roundw
      case rel => exact ⟨i + 1, by go_num, by omega, HSET, Lib.hid (HMi.out.setCell _ (by simp) _)⟩
      case measure => simp [intOf]; omega
    · have hie : i = B.length := by omega
      subst hie
      have HH : Hid (Blk wr q4 29 (mkHash B).cells.toArray) := Lib.hid (by rw [mkHash_cells B hB32]; exact HBi.out)
      have hel := HEL.out
      have he6 := HE6L.out
      have HE8 := Lib.hid (HE7.out.write HMi.out (fun b hb => by simp at hb; subst hb; have := HE3.out.2.2.1.size; have := HE3.out.2.2.2.2.1; refine ⟨?_, ?_, ?_⟩ <;> omega))
      have HB28 := Lib.hid (HB27.out.mod HMi.out (by simp; omega))
      have HX8 := Lib.hid (HX7.out.mod HMi.out (by simp; omega))
      clear HBi HMi HEL HE6L
      go_wp2_with fail
      have hlh : ∀ W, Mod [q2, eb] wr W → CellsAt W q4 0 (mkHash B).cells := fun W hW => CellsAt.of_blk (HH.out.mod hW (by simp; omega))
      have hlx : ∀ W, Mod [q2, eb] wr W → CellsAt W e6 0 [.int .i64 (y : Int), .int .i64 (a : Int)] := fun W hW => CellsAt.of_blk (HX8.out.mod hW (by simp; omega))
      have hw0 : Mod [q2, eb] wr wr.drew := (Mod.refl _ wr).drew
      have HQP := Lib.hid (show q2 ≠ p ∧ q2 ≠ eb ∧ (0 < xs.length → g ≠ q2) from ⟨by have := HQ2.out.1; omega, by omega, fun h0 => by have := HI.out.g_lt h0; have := HQ2.out.1; omega⟩)
      have HEB8 := Lib.hid (HE8.out.2.1)
      refine wp_regionE (Mod [q2, eb]) (by kernel_rfl) ?_
      simp only [List.size_toArray, List.length_cons, List.length_nil, Nat.zero_add, Nat.reduceAdd]
      refine wpAnyE_takeL (preMod _) 0 (v := ?_) rfl (by kernel_rfl) (by kernel_rfl) (by kernel_rfl) (fun _ _ _ h => h) (Or.inl ⟨by rfl, ?_⟩) ?_
      rotate_left; (intro W hW; (try dsimp only at hW); refine (run_load_cells rtHash (.tmp 4) (by rfl) (by rfl) (GHash.cells_length _) (hlh W (hw0.trans hW))).trans ?_; try with_reducible rfl)
      (try simp only [Act.put, List.setIfInBounds_toArray, List.set_cons_zero, List.set_cons_succ])
      refine wpAnyE_takeL (preMod _) 1 (v := ?_) rfl (by kernel_rfl) (by kernel_rfl) (by kernel_rfl) (fun _ _ _ h => h) (Or.inl ⟨by rfl, ?_⟩) ?_
      rotate_left; (intro W hW; (try dsimp only at hW); refine (run_load_cells rtErr (.tmp 6) (by rfl) (by rfl) rfl (hlx W (hw0.trans hW))).trans ?_; try with_reducible rfl)
      (try simp only [Act.put, List.setIfInBounds_toArray, List.set_cons_zero, List.set_cons_succ])
      refine wpAnyE_ready (rs := [2]) (by kernel_rfl) (by simp) ?_
      refine AllReadyE.consL rfl (fun K hK => ?_) AllReadyE.nil
      rw [if_pos (by rfl)]
      refine opwp_store_blk rtHash _ _ (by rfl) (by rfl) (by rfl) (HB28.out.mod (Mod.refl [] wr).drew (by simp)) (GHash.cells_length _) (by simp [GHash.cells_length]) (GHash.one _) ?_
      intro w9 hb9 hm9
      have hmE : Mod [q2, eb] wr.drew w9 := hm9.mono (by simp)
      have HB9 := Lib.hid hb9
      have HM9 := Lib.hid ((Mod.refl [q2] wr).drew.trans hm9)
      have HEB9 := Lib.hid (HEB8.out.mod HM9.out (by have := HQP.out.2.1; simp; omega))
      clear hb9 hm9
      refine hK.out _ _ (by first | exact hmE | exact Mod.refl _ _ | exact (Mod.refl _ _).alloc _) ?_
      clear hK
      (try simp only [Act.put, List.setIfInBounds_toArray, List.set_cons_zero, List.set_cons_succ])
      refine wpAnyE_ready (rs := [3]) (by kernel_rfl) (by simp) ?_
      refine AllReadyE.consL rfl (fun K hK => ?_) AllReadyE.nil
      rw [if_pos (by rfl)]
      refine opwp_store_blk rtErr _ _ (by rfl) (by rfl) (by rfl) HEB9.out rfl rfl (by simp [Value.oneCell']) ?_
      intro w10 hb10 hm10
      have hmE : Mod [q2, eb] w9 w10 := hm10.mono (by simp)
      have HB10 := Lib.hid (HB9.out.mod hm10 (by have := HQP.out.2.1; simp; omega))
      have HX10 := Lib.hid hb10
      have HM10 := Lib.hid ((HM9.out.mono (by simp)).trans (hm10.mono (by simp) : Mod [q2, eb] w9 w10))
      clear hb10 hm10
      refine hK.out _ _ (by first | exact hmE | exact Mod.refl _ _ | exact (Mod.refl _ _).alloc _) ?_
      clear hK
      (try simp only [Act.put, List.setIfInBounds_toArray, List.set_cons_zero, List.set_cons_succ])
      refine wpAnyE_done (by kernel_rfl) ?_ _
      go_wp2
      refine bodyPost_ret (results_row2 rtHash rtErr rfl rfl HB10.out (by simp [GHash.cells_length]) rfl HX10.out rfl) rfl ?_
      have hM8 := HE8.out.2.2.1
      have hI8 := HE8.out.1
      have hN1 := HQP.out
      have hN2 := HQ2.out
      have hN3 := HEB.out
      have hB := HBB.out
      have hY := HYA.out
      have hg := HI.out.g_lt
      refine hashRd_fin HR.out hY.symm hB ?_ ?_
      · exact hI8.mod HM10.out (by have := HEB.out; simp; omega) (fun h0 => by have := hg h0; have := hN1.2.2 h0; simp; omega)
      · exact ((HM2.out.mono (by simp)).trans hM8).then HM10.out (fun b hb => by simp at hb; right; omega)
end Go.Proofs.Ytdiplliemdogfaa
