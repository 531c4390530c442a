import Derived.Test.YtlpjeckhejbkkaaIn
set_option linter.unusedVariables false
set_option linter.unusedSimpArgs false
set_option maxRecDepth 20000
set_option maxHeartbeats 400000
namespace Go.Proofs.Ytlpjeckhejbkkaa
open Go.RowKit

theorem inByte_any (p g : Nat) (xs : Bytes) (w : World) (n0 : Nat) (hI : InB w p g xs n0 .nilIface) (hn : n0 ≤ xs.length) :
    Calls Try.prog 64 #[ptr p] w (RdP w p g xs (rdByte xs n0) bv (.int .u8 0)) := by
  by_cases hlt : n0 < xs.length
  · have H5 : Hid (rdByte xs n0 = .ok xs[n0] (n0 + 1)) := Lib.hid (by rw [rdByte, dif_pos hlt])
    have hnext := next_ok 1 p g xs w n0 hI (by omega)
    have HN := Lib.hid hnext; clear hnext
    go_enter Try.func64, Try.ntmps64
    go_wp2_with fail
    refine HN.out.mono ?_
    rintro e' w1 ⟨v, rfl, hr, hI1, hm⟩
    obtain ⟨off, cap, rfl, _, _, hg, hcell⟩ := hr.at_ (by omega)
    have hc := hcell 0 (bv xs[n0]) (by
      rw [List.getElem?_map, List.getElem?_take]
      simp [hlt])
    clear hcell
    rw [Nat.add_zero] at hc
    unfold bv at hc
    go_wp2
    go_ret2
    rw [H5.out]
    exact ⟨rfl, hI1, hm⟩
  · have H5 : Hid (rdByte xs n0 = .bad 20 n0) := Lib.hid (by rw [rdByte, dif_neg hlt])
    have hnext := next_short 1 p g xs w n0 hI (by omega) (by omega)
    have HN := Lib.hid hnext; clear hnext
    go_enter Try.func64, Try.ntmps64
    go_wp2_with fail
    refine HN.out.mono ?_
    rintro e' w1 ⟨q, rfl, hb, hI1, hm, hq⟩
    unfold badV
    go_wp2
    go_ret2
    rw [H5.out]
    exact ⟨q, rfl, hb, hI1, hm, hq⟩

/-- Raw: as bytes in memory of its own -/
def RawP (w : World) (p g : Nat) (xs : Bytes) (r : Rd Bytes) (e' : Ending) (w' : World) : Prop :=
  match r with
  | .ok a pos => ∃ v, e' = .returned (.tuple #[v, .nilIface]) ∧ InB w' p g xs pos .nilIface ∧ Mod [p] w w' ∧ OwnB w' v a ∧ (∀ b ∈ blks v, w.heap.size ≤ b)
  | .bad why at_ => ∃ q, e' = .returned (.tuple #[.slice none 0 0, badV q]) ∧ BadAt w' q why at_ ∧ InB w' p g xs at_ (badV q) ∧ Mod [p] w w' ∧ w.heap.size ≤ q
theorem xor_zero0 : bits .xor .i64 0 (wrap64 (-wrap64 (bits .and .u64 0 1))) = 0 := by decide +kernel
theorem rdNum_ok {xs : Bytes} {n0 most x pos : Nat} (h : rdNum xs n0 most = .ok x pos) (hn : n0 ≤ xs.length) : x ≤ most ∧ n0 < pos ∧ pos ≤ xs.length ∧ x < 18446744073709551616 := by
  have hb := numAt_bounds (xs.drop n0) 0 0 (by omega) (by omega)
  rw [List.length_drop] at hb
  rcases rdNum_cases xs n0 most with ⟨h3, h4, h5⟩ | ⟨h3, h4, h5⟩ | ⟨h3, h5⟩
  · rw [h] at h5
    injection h5 with h6 h7
    subst h6
    rcases hb with ⟨_, b1, b2, b3, _⟩ | ⟨b1, _⟩
    · exact ⟨h4, by omega, by omega, b1⟩
    · omega
  · rw [h] at h5; cases h5
  · rw [h] at h5; cases h5
theorem inSigned_any (p g : Nat) (xs : Bytes) (w : World) (n0 : Nat) (hI : InB w p g xs n0 .nilIface) (hn : n0 ≤ xs.length) :
    Calls Try.prog 98 #[ptr p] w (RdP w p g xs (rdSigned xs n0) (fun x => .int .i64 x) (.int .i64 0)) := by
  have hnum : Calls Try.prog 65 #[ptr p, .int .u64 18446744073709551615] w _ := inNumber_any 18446744073709551615 p g xs w n0 hI hn (by omega)
  have HN := Lib.hid hnum; clear hnum
  have hok := @rdNum_ok xs n0 18446744073709551615
  unfold rdSigned
  generalize rdNum xs n0 18446744073709551615 = r at *
  cases r with
  | ok x pos =>
    obtain ⟨_, _, hp, hx⟩ := hok rfl hn
    have HX := Lib.hid hx; clear hx hok
    go_enter Try.func98, Try.ntmps98
    go_wp2_with fail
    refine HN.out.mono ?_
    rintro e' w1 ⟨rfl, hI1, hm⟩
    go_wp2
    go_ret2
    refine ⟨?_, hI1, hm⟩
    show Ending.returned (.tuple #[.int .i64 (bits .xor .i64 ((x : Int) / 2) (wrap64 (-(wrap64 (bits .and .u64 (x : Int) 1))))), _]) = _
    rw [zag_bits x HX.out]
    rfl
  | bad why at_ =>
    clear hok
    go_enter Try.func98, Try.ntmps98
    go_wp2_with fail
    refine HN.out.mono ?_
    rintro e' w1 ⟨q, rfl, hb, hI1, hm, hq⟩
    unfold badV
    go_wp2
    go_ret2
    exact ⟨q, by show Ending.returned (.tuple #[.int .i64 (bits .xor .i64 0 (wrap64 (-wrap64 (bits .and .u64 0 1)))), _]) = _; rw [xor_zero0]; rfl, hb, hI1, hm, hq⟩
theorem read_any (p g : Nat) (xs : Bytes) (w : World) (n0 : Nat) (hI : InB w p g xs n0 .nilIface) (hn : n0 ≤ xs.length) (hz : xs.length ≤ 140737488355328) :
    Calls Try.prog 102 #[ptr p, .int .i64 65536] w (RdP w p g xs (rdText xs n0) (fun s => .string s) (.string ⟨#[]⟩)) := by
  have hnum : Calls Try.prog 65 #[ptr p, .int .u64 65536] w _ := inNumber_any 65536 p g xs w n0 hI hn (by omega)
  have HN := Lib.hid hnum; clear hnum
  have hok := @rdNum_ok xs n0 65536
  unfold rdText rdBytes
  generalize rdNum xs n0 65536 = r at *
  cases r with
  | ok x pos =>
    obtain ⟨hx, _, hp, _⟩ := hok rfl hn
    go_enter Try.func102, Try.ntmps102
    go_wp2_with fail
    refine HN.out.mono ?_
    rintro e' w1 ⟨rfl, hI1, hm⟩
    go_wp2_with fail
    refine (left_any p g xs w1 pos _ hI1 hp).mono ?_
    rintro e' w2 ⟨rfl, k, rfl⟩
    have hI2 := hI1.drewN k
    by_cases hlt : pos + x ≤ xs.length
    · have HR : Hid (rdRaw xs pos x = .ok ((xs.drop pos).take x) (pos + x)) := Lib.hid (by rw [rdRaw, if_neg (by omega)])
      have hnext := next_ok x p g xs (w1.drewN k) pos hI2 hlt
      have HX := Lib.hid hnext; clear hnext hI1 hI2
      go_wp2_with fail
      refine HX.out.mono ?_
      rintro e' w3 ⟨v, rfl, hr, hI3, hm3⟩
      have hr3 : BS w3 g v ((xs.drop pos).take x) := by
        have e : ((xs.drop pos).take x).length = x := by simp; omega
        unfold BS; rw [e]; exact hr
      have HR3 := Lib.hid hr3; clear hr3 hr
      have HI3 := Lib.hid hI3; clear hI3
      go_wp2_with (at_builtin; refine wpList_append_bytes rfl _ _ rfl (OwnB.nil w3) rfl HR3.out rfl ?_ ?hz; intro A1 n1 cap1 w4 hown hn1 hm4 hf4; obtain ⟨g4, hr4, _⟩ := hown.bs; have hcv := run_str hr4; have HM4 := Lib.hid hm4; clear hm4 hf4 hr4)
      case hz => simp; omega
      go_ret2
      rw [show (Rd.ok x pos).bind (fun n p => rdRaw xs p n) = rdRaw xs pos x from rfl, HR.out]
      have hm5 : Mod [] w3 w4 := HM4.out.mono (by simp [blks, Value.ownBlock])
      exact ⟨rfl, HI3.out.mod hm5 (by simp) (by simp), ((hm.drewN k).trans hm3).trans (hm5.mono (by simp))⟩
    · have HR : Hid (rdRaw xs pos x = .bad 20 pos) := Lib.hid (by rw [rdRaw, if_pos (by omega)])
      obtain ⟨A, cap, h0, h1, h2, f0, f1, f2, hl, hr, hgp, hlc, hcm⟩ := hI2.cells
      have HI2 := Lib.hid hI2; clear hI1 hI2
      have hs : xs.length - pos < x := by omega
      go_wp2_with fail
      refine (fail_any _ _ p g xs _ _ _ HI2.out).mono ?_
      rintro e' w3 ⟨rfl, hb3, hI3, hm3⟩
      unfold badV
      go_wp2
      go_ret2
      rw [show (Rd.ok x pos).bind (fun n p => rdRaw xs p n) = rdRaw xs pos x from rfl, HR.out]
      exact ⟨_, rfl, hb3, hI3, (hm.drewN k).trans hm3, by simpa using hm.size⟩
  | bad why at_ =>
    go_enter Try.func102, Try.ntmps102
    go_wp2_with fail
    refine HN.out.mono ?_
    rintro e' w1 ⟨q, rfl, hb, hI1, hm, hq⟩
    unfold badV
    go_wp2
    go_ret2
    exact ⟨q, rfl, hb, hI1, hm, hq⟩
end Go.Proofs.Ytlpjeckhejbkkaa
