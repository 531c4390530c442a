import Derived.RegionTactic
import Derived.Test.YtdiplliemdogfaaRIn
import Derived.Test.YtdiplliemdogfaaReg
set_option linter.unusedVariables false
set_option linter.unusedSimpArgs false
set_option maxRecDepth 20000
set_option maxHeartbeats 800000
namespace Go.Proofs.Ytdiplliemdogfaa
open Go.RowKit

/-- a reader, and a variable that holds an error -/
def RE (w : World) (p g : Nat) (xs : Bytes) (s : Rd Unit) (eb : Nat) (y a : Int) (wr : World) : Prop :=
  RIn wr p g xs s ∧ Blk wr eb 57 #[.int .i64 y, .int .i64 a] ∧ Mod [p] w wr ∧ w.heap.size ≤ eb ∧ p < w.heap.size ∧ (0 < xs.length → g < w.heap.size)
section
variable {w wr w' : World} {p g : Nat} {xs : Bytes} {s : Rd Unit} {eb : Nat} {y a : Int}
theorem RIn.g_lt (h : RIn w p g xs s) : 0 < xs.length → g < w.heap.size := fun h0 => by
  obtain ⟨⟨v, _, hr, _⟩, _⟩ := h
  obtain ⟨_, _, _, _, _, hl, _⟩ := hr.at_ h0
  exact hl
theorem RE.start (h : RIn w p g xs s) : RE w p g xs s w.heap.size 0 0 (w.alloc (.cells #[.int .i64 0, .int .i64 0] 57)) :=
  ⟨h.mod ((Mod.refl [] w).alloc _) (by simp) (by simp), Blk.new w _ _, (Mod.refl [p] w).alloc _, Nat.le_refl _, h.lt, h.g_lt⟩
theorem RE.mod (h : RE w p g xs s eb y a wr) (hm : Mod [] wr w') : RE w p g xs s eb y a w' := by
  obtain ⟨k1, k2, k3, k4, k5, k6⟩ := h
  exact ⟨k1.mod hm (by simp) (by simp), k2.mod hm (by simp), k3.trans (hm.mono (by simp)), k4, k5, k6⟩
theorem RE.read {s' : Rd Unit} (h : RE w p g xs s eb y a wr) (hI : RIn w' p g xs s') (hm : Mod [p] wr w') : RE w p g xs s' eb y a w' := by
  obtain ⟨k1, k2, k3, k4, k5, k6⟩ := h
  exact ⟨hI, k2.mod hm (by simp; omega), k3.trans hm, k4, k5, k6⟩
theorem RE.open_ (h : RE w p g xs s eb y a wr) : ∃ A cap, wr.cell? ⟨p, 0, none⟩ = some (.slice A xs.length cap) ∧ wr.cell? ⟨p, 1, none⟩ = some (.int .i64 (posOf s)) ∧ wr.cell? ⟨p, 2, none⟩ = some (.int .i64 (whyOf s)) ∧ wr.cell? ⟨p, 3, none⟩ = some (.int .i64 (badAt s)) ∧
    wr.frozen? ⟨p, 0, none⟩ = false ∧ wr.frozen? ⟨p, 1, none⟩ = false ∧ wr.frozen? ⟨p, 2, none⟩ = false ∧ wr.frozen? ⟨p, 3, none⟩ = false ∧ p < wr.heap.size ∧ Hid (BS wr g (.slice A xs.length cap) xs ∧ (0 < xs.length → g ≠ p)) ∧ xs.length ≤ cap ∧ cap ≤ 9223372036854775807 ∧
    wr.cell? ⟨eb, 0, none⟩ = some (.int .i64 y) ∧ wr.cell? ⟨eb, 1, none⟩ = some (.int .i64 a) ∧ wr.frozen? ⟨eb, 0, none⟩ = false ∧ wr.frozen? ⟨eb, 1, none⟩ = false ∧ eb < wr.heap.size := by
  obtain ⟨k1, k2, k3, k4, k5, k6⟩ := h
  obtain ⟨A, cap, c0, c1, c2, c3, f0, f1, f2, f3, hl, HB, h1, h2⟩ := k1.open_
  exact ⟨A, cap, c0, c1, c2, c3, f0, f1, f2, f3, hl, HB, h1, h2, k2.cell 0, k2.cell 1, k2.frozen 0, k2.frozen 1, k2.lt⟩
/-- the error's variable written -/
theorem RE.set (h : RE w p g xs s eb y a wr) (y' a' : Int) : RE w p g xs s eb y' a' ((wr.setCell ⟨eb, 0, none⟩ (.int .i64 y')).setCell ⟨eb, 1, none⟩ (.int .i64 a')) := by
  obtain ⟨k1, k2, k3, k4, k5, k6⟩ := h
  have hm : Mod [eb] wr ((wr.setCell ⟨eb, 0, none⟩ (.int .i64 y')).setCell ⟨eb, 1, none⟩ (.int .i64 a')) := ((Mod.refl [eb] wr).setCell _ (by simp) _).setCell _ (by simp) _
  exact ⟨k1.mod hm (by simp; omega) (fun h0 => by have := k6 h0; simp; omega), (k2.set_ 0 _).set_ 1 _, k3.then hm (by simp; omega), k4, k5, k6⟩
theorem RE.pos {u : Unit} {m : Nat} (h : RE w p g xs (.ok u m) eb y a wr) {n : Nat} (hn : n ≤ xs.length) : RE w p g xs (.ok u n) eb y a (wr.setCell ⟨p, 1, none⟩ (.int .i64 (n : Int))) := by
  obtain ⟨k1, k2, k3, k4, k5, k6⟩ := h
  exact ⟨k1.pos hn, k2.far (by simp; omega) _, k3.setCell _ (by simp) _, k4, k5, k6⟩
theorem RE.drew (h : RE w p g xs s eb y a wr) : RE w p g xs s eb y a wr.drew := h.mod (Mod.refl [] _).drew
theorem RE.drewN (h : RE w p g xs s eb y a wr) (n : Nat) : RE w p g xs s eb y a (wr.drewN n) := h.mod ((Mod.refl [] _).drewN n)
end
theorem RE.new {w : World} {p g : Nat} {xs : Bytes} {s : Rd Unit} (h : RIn w p g xs s) (y a : Int) : RE w p g xs s w.heap.size y a (w.alloc (.cells #[.int .i64 y, .int .i64 a] 57)) :=
  ⟨h.mod ((Mod.refl [] w).alloc _) (by simp) (by simp), Blk.new w _ _, (Mod.refl [p] w).alloc _, Nat.le_refl _, h.lt, h.g_lt⟩
/-- a value, and an error: the end -/
theorem RE.fin {α : Type} {w wr : World} {p g : Nat} {xs : Bytes} {r : Rd α} {eb : Nat} {y a : Int} {val : α → Value} {z v : Value} (h : RE w p g xs r.st eb y a wr) (hv : v = r.valv val z) (he : errV y a = r.errv) : RdQ w p g xs val z r (.returned (.tuple #[v, .agg #[.int .i64 y, .int .i64 a]])) wr := by
  obtain ⟨k1, k2, k3, k4, k5, k6⟩ := h
  refine ⟨?_, k1, k3⟩
  rw [hv, ← he]
  rfl
theorem refByte_any (p g : Nat) (xs : Bytes) (s : Rd Unit) (w : World) (hI : RIn w p g xs s) :
    Calls Try.prog 65 #[ptr p] w (RdQ w p g xs bv (.int .u8 0) (s.bind fun _ n => rdByte xs n)) := by
  obtain ⟨A, cap, c0, c1, c2, c3, f0, f1, f2, f3, hl, HB, h1, h2⟩ := hI.open_
  have HI := Lib.hid hI; clear hI
  cases s with
  | bad y a =>
    have hy : ¬ ((y : Int) = 0) := by have := HI.out.2.2 y a rfl; omega
    dsimp only [posOf, whyOf, badAt] at c1 c2 c3
    go_enter Try.func65, Try.ntmps65
    go_wp2
    go_region
    go_wp2
    exact bodyPost_ret (results_tmp_row rtErr rfl rfl (Blk.drew (Blk.new' rfl)) rfl) rfl (RE.fin (RE.drew (RE.new HI.out y a)) rfl rfl)
  | ok u m =>
    have hm := HI.out.2.1
    dsimp only [posOf, whyOf, badAt] at c1 c2 c3 hm
    obtain ⟨k, hk⟩ : ∃ k, xs.length - m = k := ⟨_, rfl⟩
    have hleft := refLeft_any p g xs (.ok u m) (w.alloc (.cells #[.int .i64 0, .int .i64 0] 57)) (HI.out.mod ((Mod.refl [] w).alloc _) (by simp) (by simp))
    dsimp only [posOf] at hleft
    rw [hk] at hleft
    have HL := Lib.hid hleft; clear hleft
    have HK := Lib.hid hk; clear hk
    go_enter Try.func65, Try.ntmps65
    go_wp2_with fail
    refine HL.out.mono ?_
    rintro e' w2 ⟨rfl, hm2⟩
    have HE := Lib.hid ((RE.new HI.out 0 0).mod hm2)
    clear c0 c1 c2 c3 f0 f1 f2 f3 hl HB h1 h2 hm2 HL
    obtain ⟨A, cap, c0, c1, c2, c3, f0, f1, f2, f3, hl, HB, h1, h2, e0, e1, ef0, ef1, hle⟩ := HE.out.open_; dsimp only [posOf, whyOf, badAt] at c1 c2 c3
    by_cases hlt : m < xs.length
    · have H5 : Hid (rdByte xs m = .ok xs[m] (m + 1)) := Lib.hid (by rw [rdByte, dif_pos hlt])
      have hk1 : 1 ≤ k := by have := HK.out; omega
      go_wp2
      have HE3 : Hid (RE w p g xs (.ok u (m + 1)) w.heap.size 0 0 (w2.setCell ⟨p, 1, none⟩ (.int .i64 ((m : Int) + 1)))) := Lib.hid (HE.out.pos (n := m + 1) (by omega))
      clear c0 c1 c2 c3 f0 f1 f2 f3 hl HB h1 h2 e0 e1 ef0 ef1 hle
      generalize w2.setCell _ _ = w3 at *
      obtain ⟨A, cap, c0, c1, c2, c3, f0, f1, f2, f3, hl, HB, h1, h2, e0, e1, ef0, ef1, hle⟩ := HE3.out.open_; dsimp only [posOf, whyOf, badAt] at c1 c2 c3
      obtain ⟨off, cap', hv, _, _, _, hcell⟩ := HB.out.1.at_ (by omega)
      injection hv with hA _ hcap
      subst hA
      subst hcap
      have hc := hcell m (bv xs[m]) (by simp [hlt])
      unfold bv at hc
      have w1 : IntKind.i64.wrap ((m : Int) + 1 - 1) = (m : Int) := by rw [IntKind.wrap_i64]; omega
      have w2' : (m : Int) + 1 - 1 = (m : Int) := by omega
      clear hcell hk1
      go_region
      go_wp2
      have e : ((.ok u m : Rd Unit).bind fun _ n => rdByte xs n) = .ok xs[m] (m + 1) := H5.out
      rw [e]
      first | exact bodyPost_ret (results_tmp_row rtErr rfl rfl (RE.drew (RE.set HE3.out 0 0)).2.1 rfl) rfl (RE.fin (r := .ok xs[m] (m + 1)) (RE.drew (RE.set HE3.out 0 0)) rfl rfl) | trace_state
    · have H5 : Hid (rdByte xs m = .bad 20 m) := Lib.hid (by rw [rdByte, dif_neg hlt])
      have hk1 : k = 0 := by have := HK.out; omega
      subst hk1
      go_wp2_with fail
      refine (refWrong0_any 20 m (by omega) p g m xs w2 (by omega) HE.out.1).mono ?_
      rintro e' w3 ⟨rfl, hI3, hm3⟩
      have HE3 := Lib.hid (HE.out.read hI3 hm3)
      clear hI3 hm3
      clear c0 c1 c2 c3 f0 f1 f2 f3 hl HB h1 h2 e0 e1 ef0 ef1 hle
      obtain ⟨A, cap, c0, c1, c2, c3, f0, f1, f2, f3, hl, HB, h1, h2, e0, e1, ef0, ef1, hle⟩ := HE3.out.open_; dsimp only [posOf, whyOf, badAt] at c1 c2 c3
      unfold errV
      go_wp2
      have e : ((.ok u m : Rd Unit).bind fun _ n => rdByte xs n) = .bad 20 m := H5.out
      rw [e]
      exact bodyPost_ret (results_tmp_row rtErr rfl rfl (RE.set HE3.out 20 m).2.1 rfl) rfl (RE.fin (r := .bad 20 m) (RE.set HE3.out 20 m) rfl rfl)
end Go.Proofs.Ytdiplliemdogfaa
