import Derived.Test.YtdiplliemdogfaaRIn3
import Derived.Test.YtdiplliemdogfaaOnceLaw
set_option linter.unusedVariables false
set_option linter.unusedSimpArgs false
set_option maxRecDepth 20000
set_option maxHeartbeats 1600000
namespace Go.Proofs.Ytdiplliemdogfaa
open Go.RowKit

def Rd.bytes : Rd Bytes → Bytes
  | .ok b _ => b
  | .bad _ _ => []
def RawQ (w : World) (p g : Nat) (xs : Bytes) (r : Rd Bytes) (e' : Ending) (w' : World) : Prop :=
  ∃ A n c, e' = .returned (.tuple #[.slice A n c, r.errv]) ∧ OwnB w' (.slice A n c) r.bytes ∧ RIn w' p g xs r.st ∧ Mod [p] w w' ∧ ∀ b ∈ blks (.slice A n c), w.heap.size ≤ b
theorem RE.finR {w wr : World} {p g : Nat} {xs : Bytes} {r : Rd Bytes} {eb : Nat} {y a : Int} {A : Option Addr} {n c : Nat} {v : Value} (h : RE w p g xs r.st eb y a wr) (hv : v = .slice A n c) (he : errV y a = r.errv) (ho : OwnB wr (.slice A n c) r.bytes) (hf : ∀ b ∈ blks (.slice A n c), w.heap.size ≤ b) : RawQ w p g xs r (.returned (.tuple #[v, .agg #[.int .i64 y, .int .i64 a]])) wr := by
  obtain ⟨k1, k2, k3, k4, k5, k6⟩ := h
  exact ⟨A, n, c, by rw [hv, ← he]; rfl, ho, k1, k3, hf⟩
theorem RE.write {w wr w' : World} {p g : Nat} {xs : Bytes} {s : Rd Unit} {eb : Nat} {y a : Int} {S : List Nat} (h : RE w p g xs s eb y a wr) (hm : Mod S wr w') (hS : ∀ b ∈ S, w.heap.size ≤ b ∧ b ≠ p ∧ b ≠ eb) : RE w p g xs s eb y a w' := by
  obtain ⟨k1, k2, k3, k4, k5, k6⟩ := h
  exact ⟨k1.mod hm (fun hb => (hS _ hb).2.1 rfl) (fun h0 hb => by have := k6 h0; have := (hS _ hb).1; omega), k2.mod hm (fun hb => (hS _ hb).2.2 rfl), k3.then hm (fun b hb => .inr (hS b hb).1), k4, k5, k6⟩
theorem OwnB.empty (w : World) : OwnB (w.alloc (.cells #[] 5)) (.slice (some ⟨w.heap.size, 0, none⟩) 0 0) [] :=
  ⟨rfl, .inr ⟨w.heap.size, 0, #[], rfl, Nat.zero_le _, heap_alloc_new w _, Nat.le_refl _, by decide, rfl, rfl⟩⟩
theorem refRaw_any (n p g : Nat) (xs : Bytes) (s : Rd Unit) (w : World) (hI : RIn w p g xs s) (hn63 : n ≤ 140737488355328) (hz : xs.length ≤ 140737488355328) :
    Calls Try.prog 29 #[ptr p, .int .i64 (n : Int)] w (RawQ w p g xs (s.bind fun _ m => rdRaw xs m n)) := by
  obtain ⟨A, cap, c0, c1, c2, c3, f0, f1, f2, f3, hl, HB, h1, h2⟩ := hI.open_
  have HI := Lib.hid hI; clear hI
  cases s with
  | bad y a =>
    have hy : ¬ ((y : Int) = 0) := by have := HI.out.2.2 y a rfl; omega
    dsimp only [posOf, whyOf, badAt] at c1 c2 c3
    go_enter Try.func29, Try.ntmps29
    go_wp2
    go_region
    go_wp2
    exact bodyPost_ret (results_tmp_row rtErr rfl rfl (Blk.drew (Blk.new' rfl)) rfl) rfl (RE.finR (r := .bad y a) (RE.drew (RE.new HI.out y a)) rfl rfl (OwnB.nil _) (by simp [blks, Value.ownBlock]))
  | ok u m =>
    have hm := HI.out.2.1
    dsimp only [posOf, whyOf, badAt] at c1 c2 c3 hm
    have HRR : Hid (((.ok u m : Rd Unit).bind fun _ m => rdRaw xs m n) = rdRaw xs m n) := Lib.hid rfl
    rw [HRR.out]
    obtain ⟨k, hk⟩ : ∃ k, xs.length - m = k := ⟨_, rfl⟩
    have hleft := refLeft_any p g xs (.ok u m) (w.alloc (.cells #[.int .i64 0, .int .i64 0] 57)) (HI.out.mod ((Mod.refl [] w).alloc _) (by simp) (by simp))
    dsimp only [posOf] at hleft
    rw [hk] at hleft
    have HL := Lib.hid hleft; clear hleft
    have HK := Lib.hid hk; clear hk
    go_enter Try.func29, Try.ntmps29
    go_wp2_with fail
    refine HL.out.mono ?_
    rintro e' w2 ⟨rfl, hm2⟩
    have HE := Lib.hid ((RE.new HI.out 0 0).mod hm2)
    clear c0 c1 c2 c3 f0 f1 f2 f3 hl HB h1 h2 hm2 HL
    obtain ⟨eb, heb⟩ : ∃ eb, w.heap.size = eb := ⟨_, rfl⟩
    have HEB := Lib.hid heb
    rw [heb] at HE ⊢
    clear heb
    obtain ⟨A, cap, c0, c1, c2, c3, f0, f1, f2, f3, hl, HB, h1, h2, e0, e1, ef0, ef1, hle⟩ := HE.out.open_; dsimp only [posOf, whyOf, badAt] at c1 c2 c3
    by_cases hlt : m + n ≤ xs.length
    · have HR : Hid (rdRaw xs m n = .ok ((xs.drop m).take n) (m + n)) := Lib.hid (by rw [rdRaw, if_neg (by omega)])
      have hk1 : n ≤ k := by have := HK.out; omega
      have HE1 := Lib.hid (HE.out.mod ((Mod.refl [] w2).alloc (.cells #[] 5)))
      have HOE := Lib.hid (OwnB.empty w2)
      have hsz2 := HE.out.2.2.1.size
      have HBP := Lib.hid HB.out.1
      clear c0 c1 c2 c3 f0 f1 f2 f3 hl HB h1 h2 e0 e1 ef0 ef1 hle
      obtain ⟨A, cap, c0, c1, c2, c3, f0, f1, f2, f3, hl, HB, h1, h2, e0, e1, ef0, ef1, hle⟩ := HE1.out.open_; dsimp only [posOf, whyOf, badAt] at c1 c2 c3
      go_wp2_with fail
      have hbe : w.heap.size ≤ w2.heap.size := hsz2
      have hne4 : ∀ b ∈ blks (.slice (some ⟨w2.heap.size, 0, none⟩) 0 0), w.heap.size ≤ b ∧ b ≠ p ∧ b ≠ eb := by
        intro b hb
        simp [blks, Value.ownBlock] at hb
        have := HE.out.2.1.lt
        have := HE.out.1.lt
        omega
      have HNE := Lib.hid hne4
      clear hne4 hbe
      generalize w2.alloc (.cells #[] 5) = w4 at *
      have w1 : IntKind.i64.wrap ((m : Int) + (n : Int)) = (m : Int) + (n : Int) := by rw [IntKind.wrap_i64]; omega
      have w3 : ((m : Int) + (n : Int)).toNat = m + n := by omega
      have b1 : (0 : Int) ≤ (m : Int) + (n : Int) := by omega
      have b2 : (m : Int) + (n : Int) ≤ (cap : Int) := by omega
      have b3 : (m : Int) ≤ (m : Int) + (n : Int) := by omega
      have HPART := Lib.hid (BS.part (lo := m) (n := n) (c' := cap - m) (A' := if cap = m then A else Option.map (fun x => x.add m) A) (RS.mod HB.out.1 (Mod.refl [] w4).drew (by simp)) hlt (by omega) (by unfold maxLen; omega) (fun h0 => by rw [if_neg (by omega)]))
      have HE5 := Lib.hid (HE1.out.drew)
      have HOE5 := Lib.hid (HOE.out.mod (Mod.refl [] w4).drew (by simp))
      go_still_tail 16, (by kernel_rfl)
      clear w1 w3 b1 b2 b3
      clear c0 c1 c2 c3 f0 f1 f2 f3 hl HB h1 h2 e0 e1 ef0 ef1 hle
      change wpList _ _ _ _ _ w4.drew
      generalize w4.drew = w5 at *
      have HL5 : Hid (((xs.drop m).take n).length ≤ 140737488355328) := Lib.hid (by simp; omega)
      go_wp2_with (at_builtin; refine wpList_append_bytes rfl _ _ rfl HOE5.out rfl HPART.out rfl ?_ ?_; rotate_left; (have := HL5.out; simp only [List.length_nil]; omega); intro A6 n6 cap6 w6 ho6 hn6 hm6 HF6; have HE6 := Lib.hid (HE5.out.write hm6 (fun b hb => HNE.out b hb)); have HO6 := Lib.hid ho6; clear ho6 hn6; obtain ⟨A, cap, c0, c1, c2, c3, f0, f1, f2, f3, hl, HB, h1, h2, e0, e1, ef0, ef1, hle⟩ := HE6.out.open_; dsimp only [posOf, whyOf, badAt] at c1 c2 c3; have hpe : ¬ eb = p := (by have := HE6.out.2.2.2.1; have := HE6.out.2.2.2.2.1; omega); have hpe2 : ¬ p = eb := (fun h => hpe h.symm); have b4 : (m : Int) + (n : Int) ≤ 9223372036854775807 := (by omega))
      all_goals
        have HE7 : Hid (RE w p g xs (.ok u (m + n)) eb 0 0 (w6.setCell ⟨p, 1, none⟩ (.int .i64 ((m : Int) + (n : Int))))) := Lib.hid (HE6.out.pos (n := m + n) hlt)
        have hfb : ∀ b ∈ blks (.slice A6 n6 cap6), w.heap.size ≤ b := fun b hb => by
          rcases HF6.out b hb with h | h
          · exact (HNE.out b h).1
          · have := HE5.out.2.2.1.size; omega
        have hne6 : ∀ b ∈ blks (.slice A6 n6 cap6), b ≠ eb ∧ b ≠ p := fun b hb => by
          rcases HF6.out b hb with h | h
          · exact ⟨(HNE.out b h).2.2, (HNE.out b h).2.1⟩
          · have := HE5.out.2.1.lt; have := HE5.out.1.lt; omega
        rw [HR.out]
        refine bodyPost_ret (results_tmp_row rtErr rfl rfl (RE.set HE7.out 0 0).2.1 rfl) rfl (RE.finR (r := .ok ((xs.drop m).take n) (m + n)) (RE.set HE7.out 0 0) rfl rfl ?_ hfb)
        have h0 : OwnB w6 (.slice A6 n6 cap6) ((xs.drop m).take n) := by simpa using HO6.out
        refine (h0.mod (((Mod.refl [p, eb] w6).setCell _ (by simp) _).setCell _ (by simp) _ |>.setCell _ (by simp) _) (fun b hb => by have := hne6 b hb; simp; omega))
    · have HR : Hid (rdRaw xs m n = .bad 20 m) := Lib.hid (by rw [rdRaw, if_pos (by omega)])
      have hk1 : k < n := by have := HK.out; omega
      go_wp2_with fail
      refine (refWrong0_any 20 m (by omega) p g m xs w2 (by omega) HE.out.1).mono ?_
      rintro e' w3 ⟨rfl, hI3, hm3⟩
      have HE3 := Lib.hid (HE.out.read hI3 hm3)
      clear hI3 hm3
      clear c0 c1 c2 c3 f0 f1 f2 f3 hl HB h1 h2 e0 e1 ef0 ef1 hle
      obtain ⟨A, cap, c0, c1, c2, c3, f0, f1, f2, f3, hl, HB, h1, h2, e0, e1, ef0, ef1, hle⟩ := HE3.out.open_; dsimp only [posOf, whyOf, badAt] at c1 c2 c3
      unfold errV
      go_wp2
      rw [HR.out]
      exact bodyPost_ret (results_tmp_row rtErr rfl rfl (RE.set HE3.out 20 m).2.1 rfl) rfl (RE.finR (r := .bad 20 m) (RE.set HE3.out 20 m) rfl rfl (OwnB.nil _) (by simp [blks, Value.ownBlock]))
end Go.Proofs.Ytdiplliemdogfaa
