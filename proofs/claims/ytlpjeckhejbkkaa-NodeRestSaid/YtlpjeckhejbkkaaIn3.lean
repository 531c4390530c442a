import Derived.Test.YtlpjeckhejbkkaaIn2
set_option linter.unusedVariables false
set_option linter.unusedSimpArgs false
set_option maxRecDepth 20000
set_option maxHeartbeats 400000
namespace Go.Proofs.Ytlpjeckhejbkkaa
open Go.RowKit

theorem inText_any (p g : Nat) (xs : Bytes) (w : World) (n0 : Nat) (hI : InB w p g xs n0 .nilIface) (hn : n0 ≤ xs.length) (hz : xs.length ≤ 140737488355328) :
    Calls Try.prog 88 #[ptr p, .int .i64 65536] w (RdP w p g xs (rdText xs n0) (fun s => .string s) (.string ⟨#[]⟩)) := by
  have hread := read_any p g xs w n0 hI hn hz
  have HN := Lib.hid hread; clear hread hI
  generalize rdText xs n0 = r at *
  cases r with
  | ok x pos =>
    go_enter Try.func88, Try.ntmps88
    go_wp2_with fail
    refine HN.out.mono ?_
    rintro e' w1 ⟨rfl, hI1, hm⟩
    go_wp2
    go_ret2
    exact ⟨rfl, hI1, hm⟩
  | bad why at_ =>
    go_enter Try.func88, Try.ntmps88
    go_wp2_with fail
    refine HN.out.mono ?_
    rintro e' w1 ⟨q, rfl, hb, hI1, hm, hq⟩
    unfold badV
    go_wp2
    go_ret2
    exact ⟨q, rfl, hb, hI1, hm, hq⟩
theorem zero32 : (.cells #[.int .u8 0, .int .u8 0, .int .u8 0, .int .u8 0, .int .u8 0, .int .u8 0, .int .u8 0, .int .u8 0, .int .u8 0, .int .u8 0, .int .u8 0, .int .u8 0, .int .u8 0, .int .u8 0, .int .u8 0, .int .u8 0, .int .u8 0, .int .u8 0, .int .u8 0, .int .u8 0, .int .u8 0, .int .u8 0, .int .u8 0, .int .u8 0, .int .u8 0, .int .u8 0, .int .u8 0, .int .u8 0, .int .u8 0, .int .u8 0, .int .u8 0, .int .u8 0] 46 : Obj) = .cells GHash.zero.cells.toArray 46 := rfl
theorem inHash_any (p g : Nat) (xs : Bytes) (w : World) (n0 : Nat) (hI : InB w p g xs n0 .nilIface) (hn : n0 ≤ xs.length) :
    Calls Try.prog 66 #[ptr p] w (RdP w p g xs (rdHash xs n0) GHash.val GHash.zero.val) := by
  by_cases hlt : n0 + 32 ≤ xs.length
  · have H5 : Hid (rdHash xs n0 = .ok ⟨(xs.drop n0).take 32, by simp; omega⟩ (n0 + 32)) := Lib.hid (by rw [rdHash, dif_pos hlt])
    have HI := Lib.hid hI; clear hI
    go_enter Try.func66, Try.ntmps66
    go_wp2_with fail
    rw [zero32]
    refine (next_ok 32 p g xs _ n0 (HI.out.alloc _) (by omega)).mono ?_
    rintro e' w1 ⟨v, rfl, hr, hI1, hm⟩
    obtain ⟨off, cap, rfl, _, _, hg, hcell⟩ := hr.at_ (by omega)
    have HC := Lib.hid hcell; clear hcell hr
    have hb : Blk w1 w.heap.size 46 GHash.zero.cells.toArray := (Blk.new w _ _).mod hm (by have := HI.out.lt; simp; omega)
    have HB := Lib.hid hb; clear hb
    have H32 : (((xs.drop n0).take 32).map bv).length = 32 := by simp; omega
    have hon : ∀ u ∈ ((xs.drop n0).take 32).map bv, u.oneCell' = true := bv_one _
    have HON := Lib.hid hon; clear hon
    have harr := run_arrayAt_hash (some ⟨g, off, none⟩) 32 cap (by omega)
    have HL := Lib.hid H32; clear H32
    go_wp2_with (first | (refine wpList_load_cells rtHash _ rfl rfl rfl HL.out HC.out ?_) | (refine wpList_store_blk rtHash _ _ rfl rfl rfl rfl HB.out HL.out (by simp [GHash.cells_length]) HON.out ?_; intro w2 hb2 hm2))
    have hm3 : Mod [p] w w2 := (((Mod.refl [p] w).alloc _).trans hm).then hm2 (by simp)
    have hg1 : g ≠ w.heap.size := by
      obtain ⟨v, _, hr, _⟩ := HI.out
      obtain ⟨_, _, _, _, _, hlt', _⟩ := hr.at_ (by omega)
      omega
    refine bodyPost_ret (results_row_tmp rtHash rfl rfl hb2 (by simpa using HL.out)) rfl ?_
    rw [H5.out]
    exact ⟨rfl, hI1.mod hm2 (by have := HI.out.lt; simp; omega) (by simpa using fun _ => hg1), hm3⟩
  · have H5 : Hid (rdHash xs n0 = .bad 20 n0) := Lib.hid (by rw [rdHash, dif_neg hlt])
    have HI := Lib.hid hI; clear hI
    go_enter Try.func66, Try.ntmps66
    go_wp2_with fail
    rw [zero32]
    refine (next_short 32 p g xs _ n0 (HI.out.alloc _) hn (by omega)).mono ?_
    rintro e' w1 ⟨q, rfl, hbad, hI1, hm, hq⟩
    have hb : Blk w1 w.heap.size 46 GHash.zero.cells.toArray := (Blk.new w _ _).mod hm (by have := HI.out.lt; simp; omega)
    have HB := Lib.hid hb; clear hb
    unfold badV
    go_wp2_with (refine wpList_store_blk rtHash _ _ rfl rfl rfl (cells := GHash.zero.cells) rfl HB.out (by simp [GHash.cells_length]) (by simp [GHash.cells_length]) GHash.zero.one ?_; intro w2 hb2 hm2)
    have hm3 : Mod [p] w w2 := (((Mod.refl [p] w).alloc _).trans hm).then hm2 (by simp)
    have hp := HI.out.lt
    refine bodyPost_ret (results_row_tmp rtHash rfl rfl hb2 (by simp [GHash.cells_length])) rfl ?_
    rw [H5.out]
    refine ⟨q, rfl, Blk.mod hbad hm2 ?_, hI1.mod hm2 (by simp; omega) (fun h => ?_), hm3, by simp at hq; omega⟩
    · have := Blk.ne_ HB.out hbad (by decide)
      simpa using fun h => this h.symm
    · obtain ⟨v, _, hr, _⟩ := HI.out
      obtain ⟨_, _, _, _, _, hlt', _⟩ := hr.at_ h
      simp; omega
end Go.Proofs.Ytlpjeckhejbkkaa
