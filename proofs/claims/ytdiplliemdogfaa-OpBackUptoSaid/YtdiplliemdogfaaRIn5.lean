import Derived.Test.YtdiplliemdogfaaRIn4
set_option linter.unusedVariables false
set_option linter.unusedSimpArgs false
set_option maxRecDepth 20000
set_option maxHeartbeats 1600000
namespace Go.Proofs.Ytdiplliemdogfaa
open Go.RowKit

theorem refBytesRd_any (most p g : Nat) (hmost : most ≤ 65536) (xs : Bytes) (s : Rd Unit) (w : World) (hI : RIn w p g xs s) (hz : xs.length ≤ 140737488355328) :
    Calls Try.prog 83 #[ptr p, .int .i64 (most : Int)] w (RawQ w p g xs (s.bind fun _ m => rdBytes xs m most)) := by
  have HI := Lib.hid hI; clear hI
  have HZ := Lib.hid hz; clear hz
  have hnum := refNumber_any' most p g (by omega) xs s (w.alloc (.cells #[.int .i64 0, .int .i64 0] 57)) (HI.out.mod ((Mod.refl [] w).alloc _) (by simp) (by simp))
  have HN := Lib.hid hnum; clear hnum
  have HR : Hid ((s.bind fun _ m => rdBytes xs m most) = (s.bind fun _ m => rdNum xs m most).bind fun n p1 => rdRaw xs p1 n) := Lib.hid (by rw [Rd.bind_assoc]; rfl)
  have HE0 := Lib.hid (RE.new HI.out 0 0)
  have HOK : Hid (∀ n p1, (s.bind fun _ m => rdNum xs m most) = .ok n p1 → n ≤ most) := Lib.hid (fun n p1 h => by
    cases s with
    | bad y a => cases h
    | ok u m => exact (rdNum_ok (show rdNum xs m most = .ok n p1 from h) HI.out.2.1).1)
  generalize (s.bind fun _ m => rdNum xs m most) = R at HN HR HOK
  obtain ⟨eb, heb⟩ : ∃ eb, w.heap.size = eb := ⟨_, rfl⟩
  rw [heb] at HE0
  have HEB := Lib.hid heb
  go_enter Try.func83, Try.ntmps83
  go_wp2_with fail
  clear heb
  refine HN.out.mono ?_
  cases R with
  | bad y a =>
    rintro e' w1 ⟨rfl, hI1, hm1⟩
    have HE1 : Hid (RE w p g xs (.bad y a) eb 0 0 w1) := Lib.hid (HE0.out.read hI1 hm1)
    clear hI1 hm1 HE0 HN
    have hy : ¬ ((y : Int) = 0) := by have := HE1.out.1.2.2 y a rfl; omega
    obtain ⟨A, cap, c0, c1, c2, c3, f0, f1, f2, f3, hl, HB, h1, h2, e0, e1, ef0, ef1, hle⟩ := HE1.out.open_; dsimp only [posOf, whyOf, badAt] at c1 c2 c3
    dsimp only [Rd.valv, Rd.errv, errV]
    go_wp2
    go_region
    go_wp2
    have HE2 := Lib.hid (RE.drew (RE.mod (RE.set HE1.out y a) ((Mod.refl [] _).alloc (.cells #[.int .i64 y, .int .i64 a] 57))))
    rw [HR.out]
    exact bodyPost_ret (results_tmp_row rtErr rfl rfl HE2.out.2.1 rfl) rfl (RE.finR (r := .bad y a) HE2.out rfl rfl (OwnB.nil _) (by simp [blks, Value.ownBlock]))
  | ok n p1 =>
    rintro e' w1 ⟨rfl, hI1, hm1⟩
    have HE1 : Hid (RE w p g xs (.ok () p1) eb 0 0 w1) := Lib.hid (HE0.out.read hI1 hm1)
    clear hI1 hm1 HE0 HN
    have hn := HOK.out n p1 rfl
    have HE2 := Lib.hid (RE.mod HE1.out ((Mod.refl [] w1).alloc (.cells #[.int .i64 0, .int .i64 0] 57)))
    obtain ⟨A, cap, c0, c1, c2, c3, f0, f1, f2, f3, hl, HB, h1, h2, e0, e1, ef0, ef1, hle⟩ := HE1.out.open_; dsimp only [posOf, whyOf, badAt] at c1 c2 c3
    dsimp only [Rd.valv, Rd.errv, errV]
    go_wp2_with fail
    refine (refRaw_any n p g xs (.ok () p1) _ HE2.out.1 (by omega) HZ.out).mono ?_
    rintro e' w3 ⟨A3, n3, c3', rfl, ho3, hI3, hm3, hf3⟩
    have HR3 : Hid ((s.bind fun _ m => rdBytes xs m most) = (.ok () p1 : Rd Unit).bind fun _ m => rdRaw xs m n) := Lib.hid HR.out
    generalize ((.ok () p1 : Rd Unit).bind fun _ m => rdRaw xs m n) = R3 at *
    have HE3 := Lib.hid (HE2.out.read hI3 hm3)
    have HO3 := Lib.hid ho3
    have HF3 := Lib.hid hf3
    have hsz1 := HE1.out.2.2.1.size
    have hlt1 := HE1.out.2.1.lt
    clear ho3 hI3 hm3 hf3 HR
    clear c0 c1 c2 c3 f0 f1 f2 f3 hl HB h1 h2 e0 e1 ef0 ef1 hle
    obtain ⟨y, a, hya⟩ : ∃ y a : Nat, R3.errv = errV y a := by cases R3 with | ok b q => exact ⟨0, 0, rfl⟩ | bad y a => exact ⟨y, a, rfl⟩
    have HYA := Lib.hid hya
    rw [hya]
    clear hya
    unfold errV
    obtain ⟨A, cap, c0, c1, c2, c3, f0, f1, f2, f3, hl, HB, h1, h2, e0, e1, ef0, ef1, hle⟩ := HE3.out.open_
    go_wp2
    rw [HR3.out]
    have HE4 := Lib.hid (RE.set HE3.out y a)
    have hfb : ∀ b ∈ blks (.slice A3 n3 c3'), w.heap.size ≤ b ∧ b ≠ eb := fun b hb => by have := HF3.out b hb; simp at this; omega
    refine bodyPost_ret (results_tmp_row rtErr rfl rfl HE4.out.2.1 rfl) rfl (RE.finR HE4.out rfl HYA.out.symm ?_ (fun b hb => (hfb b hb).1))
    exact HO3.out.mod (((Mod.refl [eb] w3).setCell _ (by simp) _).setCell _ (by simp) _) (fun b hb => by have := (hfb b hb).2; simpa using this)
theorem text_bytes (xs : Bytes) (s : Rd Unit) : (s.bind fun _ m => rdText xs m) = (s.bind fun _ m => rdBytes xs m 65536).bind fun b p => .ok ⟨b.toArray⟩ p := by rw [Rd.bind_assoc]; rfl
theorem refText_any (p g : Nat) (xs : Bytes) (s : Rd Unit) (w : World) (hI : RIn w p g xs s) (hz : xs.length ≤ 140737488355328) :
    Calls Try.prog 66 #[ptr p, .int .i64 65536] w (RdQ w p g xs (fun s => .string s) (.string ⟨#[]⟩) (s.bind fun _ m => rdText xs m)) := by
  have HI := Lib.hid hI; clear hI
  have hb : Calls Try.prog 83 #[ptr p, .int .i64 65536] (w.alloc (.cells #[.int .i64 0, .int .i64 0] 57)) _ := refBytesRd_any 65536 p g (by omega) xs s (w.alloc (.cells #[.int .i64 0, .int .i64 0] 57)) (HI.out.mod ((Mod.refl [] w).alloc _) (by simp) (by simp)) hz
  have HN := Lib.hid hb; clear hb
  have HR := Lib.hid (text_bytes xs s)
  have HE0 := Lib.hid (RE.new HI.out 0 0)
  generalize (s.bind fun _ m => rdBytes xs m 65536) = R at HN HR
  obtain ⟨eb, heb⟩ : ∃ eb, w.heap.size = eb := ⟨_, rfl⟩
  rw [heb] at HE0
  go_enter Try.func66, Try.ntmps66
  go_wp2_with fail
  clear heb
  refine HN.out.mono ?_
  rintro e' w1 ⟨A3, n3, c3', rfl, ho3, hI3, hm3, hf3⟩
  have HE1 := Lib.hid (HE0.out.read hI3 hm3)
  obtain ⟨gb, hbs, _⟩ := ho3.bs
  obtain ⟨y, a, hya⟩ : ∃ y a : Nat, R.errv = errV y a := by cases R with | ok b q => exact ⟨0, 0, rfl⟩ | bad y a => exact ⟨y, a, rfl⟩
  have hcv := run_str (RS.mod hbs (((Mod.refl [] w1).alloc (.cells #[.int .i64 y, .int .i64 a] 57)).drew) (by simp))
  have HYA := Lib.hid hya
  rw [hya]
  clear hI3 hm3 hf3 HE0 HN ho3 hbs hya
  unfold errV
  obtain ⟨A, cap, c0, c1, c2, c3, f0, f1, f2, f3, hl, HB, h1, h2, e0, e1, ef0, ef1, hle⟩ := HE1.out.open_
  go_wp2
  go_region
  go_wp2
  have HE2 := Lib.hid (RE.drew (RE.mod (RE.set HE1.out y a) ((Mod.refl [] _).alloc (.cells #[.int .i64 y, .int .i64 a] 57))))
  rw [HR.out]
  have hst : R.st = (R.bind fun b p => (.ok ⟨b.toArray⟩ p : Rd ByteArray)).st := by cases R <;> rfl
  have herr : R.errv = (R.bind fun b p => (.ok ⟨b.toArray⟩ p : Rd ByteArray)).errv := by cases R <;> rfl
  rw [hst] at HE2
  exact bodyPost_ret (results_tmp_row rtErr rfl rfl HE2.out.2.1 rfl) rfl (RE.fin HE2.out (by cases R <;> rfl) (HYA.out.symm.trans herr))
theorem refSigned_any (p g : Nat) (xs : Bytes) (s : Rd Unit) (w : World) (hI : RIn w p g xs s) :
    Calls Try.prog 67 #[ptr p] w (RdQ w p g xs (fun n => .int .i64 n) (.int .i64 0) (s.bind fun _ m => rdSigned xs m)) := by
  have HI := Lib.hid hI; clear hI
  have hb : Calls Try.prog 52 #[ptr p, .int .u64 18446744073709551615] (w.alloc (.cells #[.int .i64 0, .int .i64 0] 57)) _ := refNumber_any' 18446744073709551615 p g (by omega) xs s (w.alloc (.cells #[.int .i64 0, .int .i64 0] 57)) (HI.out.mod ((Mod.refl [] w).alloc _) (by simp) (by simp))
  have HN := Lib.hid hb; clear hb
  have HR : Hid ((s.bind fun _ m => rdSigned xs m) = (s.bind fun _ m => rdNum xs m 18446744073709551615).bind fun n p => .ok (zag n) p) := Lib.hid (by rw [Rd.bind_assoc]; rfl)
  have HE0 := Lib.hid (RE.new HI.out 0 0)
  have HOK : Hid (∀ n p1, (s.bind fun _ m => rdNum xs m 18446744073709551615) = .ok n p1 → n < 18446744073709551616) := Lib.hid (fun n p1 h => by
    cases s with
    | bad y a => cases h
    | ok u m => exact (rdNum_ok (show rdNum xs m 18446744073709551615 = .ok n p1 from h) HI.out.2.1).2.2.2)
  generalize (s.bind fun _ m => rdNum xs m 18446744073709551615) = R at HN HR HOK
  obtain ⟨eb, heb⟩ : ∃ eb, w.heap.size = eb := ⟨_, rfl⟩
  rw [heb] at HE0
  go_enter Try.func67, Try.ntmps67
  go_wp2_with fail
  clear heb
  refine HN.out.mono ?_
  cases R with
  | bad y a =>
    rintro e' w1 ⟨rfl, hI1, hm1⟩
    have HE1 : Hid (RE w p g xs (.bad y a) eb 0 0 w1) := Lib.hid (HE0.out.read hI1 hm1)
    clear hI1 hm1 HE0 HN HOK
    have hy : ¬ ((y : Int) = 0) := by have := HE1.out.1.2.2 y a rfl; omega
    obtain ⟨A, cap, c0, c1, c2, c3, f0, f1, f2, f3, hl, HB, h1, h2, e0, e1, ef0, ef1, hle⟩ := HE1.out.open_; dsimp only [posOf, whyOf, badAt] at c1 c2 c3
    dsimp only [Rd.valv, Rd.errv, errV]
    go_wp2
    go_region
    go_wp2
    have HE2 := Lib.hid (RE.drew (RE.mod (RE.set HE1.out y a) ((Mod.refl [] _).alloc (.cells #[.int .i64 y, .int .i64 a] 57))))
    rw [HR.out]
    exact bodyPost_ret (results_tmp_row rtErr rfl rfl HE2.out.2.1 rfl) rfl (RE.fin (r := .bad y a) HE2.out rfl rfl)
  | ok n p1 =>
    rintro e' w1 ⟨rfl, hI1, hm1⟩
    have HE1 : Hid (RE w p g xs (.ok () p1) eb 0 0 w1) := Lib.hid (HE0.out.read hI1 hm1)
    have HNN := Lib.hid (HOK.out n p1 rfl)
    clear hI1 hm1 HE0 HN HOK
    obtain ⟨A, cap, c0, c1, c2, c3, f0, f1, f2, f3, hl, HB, h1, h2, e0, e1, ef0, ef1, hle⟩ := HE1.out.open_; dsimp only [posOf, whyOf, badAt] at c1 c2 c3
    dsimp only [Rd.valv, Rd.errv, errV]
    go_wp2
    go_region_with (go_at_call 84; refine (zag_any n HNN.out _).mono ?_; rintro e' w9 ⟨rfl, rfl⟩)
    all_goals
      have HE2 := Lib.hid (RE.drew (RE.mod (RE.set HE1.out 0 0) ((Mod.refl [] _).alloc (.cells #[.int .i64 0, .int .i64 0] 57))))
      go_wp2
      rw [HR.out]
      exact bodyPost_ret (results_tmp_row rtErr rfl rfl HE2.out.2.1 rfl) rfl (RE.fin (r := .ok (zag n) p1) HE2.out rfl rfl)
end Go.Proofs.Ytdiplliemdogfaa
