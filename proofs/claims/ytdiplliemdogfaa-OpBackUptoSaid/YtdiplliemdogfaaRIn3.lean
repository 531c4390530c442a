import Derived.Test.YtdiplliemdogfaaRIn2
set_option linter.unusedVariables false
set_option linter.unusedSimpArgs false
set_option maxRecDepth 20000
set_option maxHeartbeats 8000000
namespace Go.Proofs.Ytdiplliemdogfaa
open Go.RowKit

theorem rdNum_num {xs : Bytes} {m most : Nat} {t : Nat × Nat × Nat} (h : numAt 0 0 (xs.drop m) = t) : rdNum xs m most = if t.2.2 = 0 then (if most < t.1 then .bad 22 m else .ok t.1 (m + t.2.1)) else .bad t.2.2 m := by
  unfold rdNum; rw [h]
theorem sum_lt (k acc d : Nat) (hk : k ≤ 9) (ha : acc < 128 ^ k) (hd : d < 128) (h9 : k = 9 → d ≤ 1) : acc + d * 128 ^ k < 18446744073709551616 := by
  have h1 := seven_next k acc d ha hd
  by_cases e : k = 9
  · subst e
    have := h9 rfl
    have : d * 128 ^ 9 ≤ 1 * 128 ^ 9 := Nat.mul_le_mul_right _ this
    omega
  · have h2 : (128 : Nat) ^ (k + 1) ≤ 128 ^ 9 := Nat.pow_le_pow_right (by omega) (by omega)
    omega
theorem sum_seven (k acc c : Nat) (hd : c % 128 * 128 ^ k < 18446744073709551616) (hv : acc + c % 128 * 128 ^ k < 18446744073709551616) :
    IntKind.u64.wrap ((acc : Int) + IntKind.u64.wrap ((c : Int) % 128 * 2 ^ (7 * k))) = ((acc + c % 128 * 128 ^ k : Nat) : Int) := by
  have e : ((c : Int) % 128 * 2 ^ (7 * k)) = ((c % 128 * 128 ^ k : Nat) : Int) := by
    rw [← pow128]
    simp
  rw [e, wrap_u64_nat _ hd]
  have e2 : ((acc : Int) + ((c % 128 * 128 ^ k : Nat) : Int)) = ((acc + c % 128 * 128 ^ k : Nat) : Int) := by simp
  rw [e2, wrap_u64_nat _ hv]
theorem refNumber_any' (most p g : Nat) (hmost : most < 18446744073709551616) (xs : Bytes) (s : Rd Unit) (w : World) (hI : RIn w p g xs s) :
    Calls Try.prog 52 #[ptr p, .int .u64 (most : Int)] w (RdQ w p g xs (fun x => .int .u64 (x : Nat)) (.int .u64 0) (s.bind fun _ n => rdNum xs n most)) := by
  have HMO := Lib.hid hmost; clear hmost
  obtain ⟨A, cap, c0, c1, c2, c3, f0, f1, f2, f3, hl, HB, h1, h2⟩ := hI.open_
  have HI := Lib.hid hI; clear hI
  cases s with
  | bad y a =>
    have hy : ¬ ((y : Int) = 0) := by have := HI.out.2.2 y a rfl; omega
    dsimp only [posOf, whyOf, badAt] at c1 c2 c3
    go_enter Try.func52, Try.ntmps52
    go_wp2
    go_region
    go_wp2
    exact bodyPost_ret (results_tmp_row rtErr rfl rfl (Blk.drew (Blk.new' rfl)) rfl) rfl (RE.fin (RE.drew (RE.new HI.out y a)) rfl rfl)
  | ok u m =>
    have hm := HI.out.2.1
    dsimp only [posOf, whyOf, badAt] at c1 c2 c3 hm
    have HE0 := Lib.hid (RE.new HI.out 0 0)
    have HRR : Hid (((.ok u m : Rd Unit).bind fun _ n => rdNum xs n most) = rdNum xs m most) := Lib.hid rfl
    rw [HRR.out]
    go_enter Try.func52, Try.ntmps52
    go_wp2
    clear c0 c1 c2 c3 f0 f1 f2 f3 hl HB h1 h2
    obtain ⟨eb, heb⟩ : ∃ eb, w.heap.size = eb := ⟨_, rfl⟩
    rw [heb] at HE0 ⊢
    go_loopw [6, 7] (fun s6 s7 wr => ∃ (k acc : Nat), s6 = .int .u64 (acc : Int) ∧ s7 = .int .i64 (k : Int) ∧ k ≤ 10 ∧ m + k ≤ xs.length ∧ Hid (acc < 128 ^ k) ∧ Hid (numAt k acc (xs.drop (m + k)) = numAt 0 0 (xs.drop m)) ∧ Hid (RE w p g xs (.ok u m) eb 0 0 wr)) (fun _ s _ => 10 - (intOf s).toNat)
    case atStart => exact ⟨0, 0, rfl, rfl, by omega, by omega, Lib.hid (by omega), Lib.hid rfl, HE0⟩
    case round =>
      obtain ⟨k, acc, rfl, rfl, hk, hkl, hacc, hnum, HE⟩ := hrel
      clear HE0
      obtain ⟨A, cap, c0, c1, c2, c3, f0, f1, f2, f3, hl, HB, h1, h2, e0, e1, ef0, ef1, hle⟩ := HE.out.open_; dsimp only [posOf, whyOf, badAt] at c1 c2 c3
      by_cases h10 : k = 10
      · subst h10
        have HR : Hid (rdNum xs m most = .bad 22 m) := Lib.hid (by rw [rdNum_num (hnum.out.symm.trans (numAt_end _ _))]; rfl)
        go_wp2_with fail
        refine (refWrong0_any 22 m (by omega) p g m xs _ (by omega) HE.out.1).mono ?_
        rintro e' w9 ⟨rfl, hI9, hm9⟩
        have HE9 := Lib.hid (HE.out.read hI9 hm9)
        clear hI9 hm9
        clear c0 c1 c2 c3 f0 f1 f2 f3 hl HB h1 h2 e0 e1 ef0 ef1 hle
        obtain ⟨A, cap, c0, c1, c2, c3, f0, f1, f2, f3, hl, HB, h1, h2, e0, e1, ef0, ef1, hle⟩ := HE9.out.open_; dsimp only [posOf, whyOf, badAt] at c1 c2 c3
        unfold errV
        go_wp2
        rw [HR.out]
        exact bodyPost_ret (results_tmp_row rtErr rfl rfl (RE.set HE9.out 22 m).2.1 rfl) rfl (RE.fin (r := .bad 22 m) (RE.set HE9.out 22 m) rfl rfl)
      · obtain ⟨j, hj⟩ : ∃ j, xs.length - m = j := ⟨_, rfl⟩
        have hleft := refLeft_any p g xs (.ok u m) wr HE.out.1
        dsimp only [posOf] at hleft
        rw [hj] at hleft
        have HL := Lib.hid hleft
        have HJ := Lib.hid hj
        clear hleft hj
        by_cases hlen : m + k < xs.length
        · have hkj : k < j := by have := HJ.out; omega
          go_wp2_with fail
          refine HL.out.mono ?_
          rintro e' w2 ⟨rfl, hm2⟩
          have HE2 := Lib.hid (HE.out.mod hm2)
          clear hm2 HL HE
          clear c0 c1 c2 c3 f0 f1 f2 f3 hl HB h1 h2 e0 e1 ef0 ef1 hle
          obtain ⟨A, cap, c0, c1, c2, c3, f0, f1, f2, f3, hl, HB, h1, h2, e0, e1, ef0, ef1, hle⟩ := HE2.out.open_; dsimp only [posOf, whyOf, badAt] at c1 c2 c3
          obtain ⟨off, cap', hv, _, _, _, hcell⟩ := HB.out.1.at_ (by omega)
          injection hv with hA _ hcap
          subst hA
          subst hcap
          obtain ⟨c, hcl, hcx0, HC⟩ : ∃ c : Nat, c < 256 ∧ w2.cell? ⟨g, off + (m + k), none⟩ = some (.int .u8 (c : Int)) ∧ Hid (xs[m + k].toNat = c) :=
            ⟨xs[m + k].toNat, xs[m + k].toNat_lt, hcell (m + k) (bv xs[m + k]) (by simp [hlen]), Lib.hid rfl⟩
          have HD : Hid (numAt k acc (xs[m + k] :: xs.drop (m + k + 1)) = numAt 0 0 (xs.drop m)) := Lib.hid (by rw [← List.drop_eq_getElem_cons hlen]; exact hnum.out)
          have w1 : IntKind.i64.wrap ((m : Int) + (k : Int)) = (m : Int) + (k : Int) := by rw [IntKind.wrap_i64]; omega
          have w3 : ((m : Int) + (k : Int)).toNat = m + k := by omega
          have w4 : (0 : Int) ≤ (m : Int) + (k : Int) := by omega
          have w5 : (m : Int) + (k : Int) < (xs.length : Int) := by omega
          clear hcell hnum
          go_wp2
          go_quiet (fail)
          clear w1 w3 w4 w5
          have HE3 := Lib.hid (HE2.out.drewN nq)
          clear HE2
          clear c0 c1 c2 c3 f0 f1 f2 f3 hl HB h1 h2 e0 e1 ef0 ef1 hle
          clear hcx0
          generalize w2.drewN nq = w3 at *
          obtain ⟨A, cap, c0, c1, c2, c3, f0, f1, f2, f3, hl, HB, h1, h2, e0, e1, ef0, ef1, hle⟩ := HE3.out.open_; dsimp only [posOf, whyOf, badAt] at c1 c2 c3
          by_cases h9 : k = 9 ∧ 1 < c
          · obtain ⟨rfl, h91⟩ := h9
            have HR : Hid (rdNum xs m most = .bad 22 m) := Lib.hid (by rw [rdNum_num (HD.out.symm.trans (numAt_over (by rw [HC.out]; exact h91)))]; rfl)
            go_wp2_with fail
            refine (refWrong0_any 22 m (by omega) p g m xs _ (by omega) HE3.out.1).mono ?_
            rintro e' w9 ⟨rfl, hI9, hm9⟩
            have HE9 := Lib.hid (HE3.out.read hI9 hm9)
            clear hI9 hm9
            clear c0 c1 c2 c3 f0 f1 f2 f3 hl HB h1 h2 e0 e1 ef0 ef1 hle
            obtain ⟨A, cap, c0, c1, c2, c3, f0, f1, f2, f3, hl, HB, h1, h2, e0, e1, ef0, ef1, hle⟩ := HE9.out.open_; dsimp only [posOf, whyOf, badAt] at c1 c2 c3
            unfold errV
            go_wp2
            rw [HR.out]
            exact bodyPost_ret (results_tmp_row rtErr rfl rfl (RE.set HE9.out 22 m).2.1 rfl) rfl (RE.fin (r := .bad 22 m) (RE.set HE9.out 22 m) rfl rfl)
          · have hd := seven_lt k (c % 128) (by omega) (Nat.mod_lt _ (by omega)) (fun h => by omega)
            have hvb : acc + c % 128 * 128 ^ k < 128 ^ (k + 1) := seven_next k acc _ hacc.out (Nat.mod_lt _ (by omega))
            have hv64 : acc + c % 128 * 128 ^ k < 18446744073709551616 := sum_lt k acc (c % 128) (by omega) hacc.out (Nat.mod_lt _ (by omega)) (fun h => by omega)
            have hsum : IntKind.u64.wrap ((acc : Int) + IntKind.u64.wrap ((c : Int) % 128 * 2 ^ (7 * k))) = ((acc + c % 128 * 128 ^ k : Nat) : Int) := sum_seven k acc c hd hv64
            have HD2 := Lib.hid (fun (h : ¬ xs[m + k].toNat < 128) => numAt_next (k := k) (acc := acc) (c := xs[m + k]) (r := xs.drop (m + k + 1)) (by omega) (by rw [HC.out]; exact h9) h)
            have HD3 := Lib.hid (fun (h : xs[m + k].toNat < 128) (h0 : ¬ (xs[m + k].toNat = 0 ∧ 0 < k)) => numAt_done (k := k) (acc := acc) (c := xs[m + k]) (r := xs.drop (m + k + 1)) (by omega) (by rw [HC.out]; exact h9) h h0)
            rw [HC.out] at HD2 HD3
            obtain ⟨V, hV⟩ : ∃ V, acc + c % 128 * 128 ^ k = V := ⟨_, rfl⟩
            rw [hV] at hsum hvb hv64 HD2
            have HV := Lib.hid hV
            have HVB := Lib.hid hvb
            have HV64 := Lib.hid hv64
            have HHD := Lib.hid hd
            clear hV hvb hv64 hd hacc
            have hpe : ¬ eb = p := by have := HE3.out.2.2.2.1; have := HE3.out.2.2.2.2.1; omega
            have hpe2 : ¬ p = eb := fun h => hpe h.symm
            have hk9 : (((k : Int) == 9) = true ∧ ¬ 1 < c) ∨ ((k : Int) == 9) = false := by
              by_cases h : k = 9
              · exact .inl ⟨by rw [h]; rfl, fun hc => h9 ⟨h, hc⟩⟩
              · exact .inr (by have : ¬ ((k : Int) = 9) := by omega
                               simpa using this)
            clear h9
            rcases hk9 with ⟨hk9, hc1⟩ | hk9
            all_goals
              by_cases h128 : c < 128
              · by_cases hk0 : 0 < k
                · by_cases hc0 : c = 0
                  · have HR : Hid (rdNum xs m most = .bad 21 m) := Lib.hid (by rw [rdNum_num (HD.out.symm.trans (numAt_long (by omega) (HC.out.trans hc0) hk0))]; rfl)
                    have hcb : ((c : Int) == 0) = true := by rw [hc0]; rfl
                    clear HD2 HD3 hc0
                    go_wp2_with fail
                    refine (refWrong0_any 21 m (by omega) p g m xs _ (by omega) HE3.out.1).mono ?_
                    rintro e' w9 ⟨rfl, hI9, hm9⟩
                    have HE9 := Lib.hid (HE3.out.read hI9 hm9)
                    clear hI9 hm9
                    clear c0 c1 c2 c3 f0 f1 f2 f3 hl HB h1 h2 e0 e1 ef0 ef1 hle
                    obtain ⟨A, cap, c0, c1, c2, c3, f0, f1, f2, f3, hl, HB, h1, h2, e0, e1, ef0, ef1, hle⟩ := HE9.out.open_; dsimp only [posOf, whyOf, badAt] at c1 c2 c3
                    unfold errV
                    go_wp2
                    rw [HR.out]
                    exact bodyPost_ret (results_tmp_row rtErr rfl rfl (RE.set HE9.out 21 m).2.1 rfl) rfl (RE.fin (r := .bad 21 m) (RE.set HE9.out 21 m) rfl rfl)
                  · have hcb : ((c : Int) == 0) = false := by
                      have : ¬ ((c : Int) = 0) := by omega
                      simpa using this
                    have HC0 : Hid (¬ (c = 0 ∧ 0 < k)) := Lib.hid (fun h => hc0 h.1)
                    clear hc0
                    have HN : Hid (numAt 0 0 (xs.drop m) = (V, k + 1, 0)) := Lib.hid (by rw [HD.out.symm.trans (HD3.out h128 HC0.out), ← HV.out, Nat.mod_eq_of_lt h128])
                    clear HD2 HD3
                    by_cases hmo : most < V
                    · have HR : Hid (rdNum xs m most = .bad 22 m) := Lib.hid (by rw [rdNum_num HN.out]; simp [hmo])
                      go_wp2_with fail
                      refine (refWrong0_any 22 m (by omega) p g m xs _ (by omega) HE3.out.1).mono ?_
                      rintro e' w9 ⟨rfl, hI9, hm9⟩
                      have HE9 := Lib.hid (HE3.out.read hI9 hm9)
                      clear hI9 hm9
                      clear c0 c1 c2 c3 f0 f1 f2 f3 hl HB h1 h2 e0 e1 ef0 ef1 hle
                      obtain ⟨A, cap, c0, c1, c2, c3, f0, f1, f2, f3, hl, HB, h1, h2, e0, e1, ef0, ef1, hle⟩ := HE9.out.open_; dsimp only [posOf, whyOf, badAt] at c1 c2 c3
                      unfold errV
                      go_wp2
                      rw [HR.out]
                      exact bodyPost_ret (results_tmp_row rtErr rfl rfl (RE.set HE9.out 22 m).2.1 rfl) rfl (RE.fin (r := .bad 22 m) (RE.set HE9.out 22 m) rfl rfl)
                    · have HR : Hid (rdNum xs m most = .ok V (m + (k + 1))) := Lib.hid (by rw [rdNum_num HN.out]; simp [hmo])
                      have HE5 : Hid (RE w p g xs (.ok u (m + (k + 1))) eb 0 0 (w3.setCell ⟨p, 1, none⟩ (.int .i64 ((m : Int) + ((k : Int) + 1))))) := Lib.hid (HE3.out.pos (n := m + (k + 1)) (by omega))
                      go_wp2
                      rw [HR.out]
                      exact bodyPost_ret (results_tmp_row rtErr rfl rfl (RE.set HE5.out 0 0).2.1 rfl) rfl (RE.fin (r := .ok V (m + (k + 1))) (RE.set HE5.out 0 0) rfl rfl)
                · have HC0 : Hid (¬ (c = 0 ∧ 0 < k)) := Lib.hid (fun h => hk0 h.2)
                  have HN : Hid (numAt 0 0 (xs.drop m) = (V, k + 1, 0)) := Lib.hid (by rw [HD.out.symm.trans (HD3.out h128 HC0.out), ← HV.out, Nat.mod_eq_of_lt h128])
                  clear HD2 HD3
                  by_cases hmo : most < V
                  · have HR : Hid (rdNum xs m most = .bad 22 m) := Lib.hid (by rw [rdNum_num HN.out]; simp [hmo])
                    go_wp2_with fail
                    refine (refWrong0_any 22 m (by omega) p g m xs _ (by omega) HE3.out.1).mono ?_
                    rintro e' w9 ⟨rfl, hI9, hm9⟩
                    have HE9 := Lib.hid (HE3.out.read hI9 hm9)
                    clear hI9 hm9
                    clear c0 c1 c2 c3 f0 f1 f2 f3 hl HB h1 h2 e0 e1 ef0 ef1 hle
                    obtain ⟨A, cap, c0, c1, c2, c3, f0, f1, f2, f3, hl, HB, h1, h2, e0, e1, ef0, ef1, hle⟩ := HE9.out.open_; dsimp only [posOf, whyOf, badAt] at c1 c2 c3
                    unfold errV
                    go_wp2
                    rw [HR.out]
                    exact bodyPost_ret (results_tmp_row rtErr rfl rfl (RE.set HE9.out 22 m).2.1 rfl) rfl (RE.fin (r := .bad 22 m) (RE.set HE9.out 22 m) rfl rfl)
                  · have HR : Hid (rdNum xs m most = .ok V (m + (k + 1))) := Lib.hid (by rw [rdNum_num HN.out]; simp [hmo])
                    have HE5 : Hid (RE w p g xs (.ok u (m + (k + 1))) eb 0 0 (w3.setCell ⟨p, 1, none⟩ (.int .i64 ((m : Int) + ((k : Int) + 1))))) := Lib.hid (HE3.out.pos (n := m + (k + 1)) (by omega))
                    go_wp2
                    rw [HR.out]
                    exact bodyPost_ret (results_tmp_row rtErr rfl rfl (RE.set HE5.out 0 0).2.1 rfl) rfl (RE.fin (r := .ok V (m + (k + 1))) (RE.set HE5.out 0 0) rfl rfl)
              · have HD4 := Lib.hid (HD2.out h128)
                have HE4 : Hid (numAt (k + 1) V (xs.drop (m + (k + 1))) = numAt 0 0 (xs.drop m)) := Lib.hid (by rw [← HD.out, HD4.out]; rfl)
                clear HD2 HD3 HD4
                first
                  | (exfalso; omega)
                  | (go_wp2
                     go_roundw
                     case rel => exact ⟨k + 1, V, rfl, by go_num, by omega, by omega, HVB, HE4, HE3⟩
                     case measure => simp [intOf]; omega)
        · have HR : Hid (rdNum xs m most = .bad 20 m) := Lib.hid (by rw [rdNum_num (hnum.out.symm.trans (by rw [List.drop_eq_nil_of_le (by omega), numAt_nil (by omega)]))]; rfl)
          have hkj : ¬ k < j := by have := HJ.out; omega
          go_wp2_with fail
          refine HL.out.mono ?_
          rintro e' w2 ⟨rfl, hm2⟩
          have HE2 := Lib.hid (HE.out.mod hm2)
          clear hm2 HL HE
          clear c0 c1 c2 c3 f0 f1 f2 f3 hl HB h1 h2 e0 e1 ef0 ef1 hle
          obtain ⟨A, cap, c0, c1, c2, c3, f0, f1, f2, f3, hl, HB, h1, h2, e0, e1, ef0, ef1, hle⟩ := HE2.out.open_; dsimp only [posOf, whyOf, badAt] at c1 c2 c3
          go_wp2_with fail
          refine (refWrong0_any 20 m (by omega) p g m xs _ (by omega) HE2.out.1).mono ?_
          rintro e' w9 ⟨rfl, hI9, hm9⟩
          have HE9 := Lib.hid (HE2.out.read hI9 hm9)
          clear hI9 hm9
          clear c0 c1 c2 c3 f0 f1 f2 f3 hl HB h1 h2 e0 e1 ef0 ef1 hle
          obtain ⟨A, cap, c0, c1, c2, c3, f0, f1, f2, f3, hl, HB, h1, h2, e0, e1, ef0, ef1, hle⟩ := HE9.out.open_; dsimp only [posOf, whyOf, badAt] at c1 c2 c3
          unfold errV
          go_wp2
          rw [HR.out]
          exact bodyPost_ret (results_tmp_row rtErr rfl rfl (RE.set HE9.out 20 m).2.1 rfl) rfl (RE.fin (r := .bad 20 m) (RE.set HE9.out 20 m) rfl rfl)
end Go.Proofs.Ytdiplliemdogfaa
