import Derived.Test.YtdiplliemdogfaaGet
set_option linter.unusedVariables false
set_option linter.unusedSimpArgs false
set_option maxRecDepth 20000
set_option maxHeartbeats 800000
namespace Go.Proofs.Ytdiplliemdogfaa
open Go.RowKit

/-! ### the reference's reader -/
def errV (why at_ : Int) : Value := .agg #[.int .i64 why, .int .i64 at_]
def Rd.st {α : Type} : Rd α → Rd Unit
  | .ok _ p => .ok () p
  | .bad w a => .bad w a
def Rd.errv {α : Type} : Rd α → Value
  | .ok _ _ => errV 0 0
  | .bad w a => errV w a
def Rd.valv {α : Type} (val : α → Value) (z : Value) : Rd α → Value
  | .ok a _ => val a
  | .bad _ _ => z
/-- where it stands, what is wrong -/
def posOf : Rd Unit → Nat
  | .ok _ p => p
  | .bad _ a => a
def whyOf : Rd Unit → Nat
  | .ok _ _ => 0
  | .bad w _ => w
def badAt : Rd Unit → Nat
  | .ok _ _ => 0
  | .bad _ a => a
def RIn (w : World) (p g : Nat) (xs : Bytes) (s : Rd Unit) : Prop :=
  (∃ v, Blk w p 59 #[v, .int .i64 (posOf s), .int .i64 (whyOf s), .int .i64 (badAt s)] ∧ BS w g v xs ∧ (0 < xs.length → g ≠ p)) ∧ posOf s ≤ xs.length ∧ (∀ y a, s = .bad y a → y ≠ 0)
section
variable {w w' : World} {p g : Nat} {xs : Bytes} {s : Rd Unit}
theorem RIn.mod {S : List Nat} (h : RIn w p g xs s) (hm : Mod S w w') (hp : p ∉ S) (hg : 0 < xs.length → g ∉ S) : RIn w' p g xs s := by
  obtain ⟨⟨v, hb, hr, hne⟩, h2⟩ := h
  exact ⟨⟨v, hb.mod hm hp, hr.mod hm hg, hne⟩, h2⟩
theorem RIn.lt (h : RIn w p g xs s) : p < w.heap.size := by
  obtain ⟨⟨v, hb, _⟩, _⟩ := h
  exact hb.lt
theorem RIn.open_ (h : RIn w p g xs s) : ∃ A cap, w.cell? ⟨p, 0, none⟩ = some (.slice A xs.length cap) ∧ w.cell? ⟨p, 1, none⟩ = some (.int .i64 (posOf s)) ∧ w.cell? ⟨p, 2, none⟩ = some (.int .i64 (whyOf s)) ∧ w.cell? ⟨p, 3, none⟩ = some (.int .i64 (badAt s)) ∧
    w.frozen? ⟨p, 0, none⟩ = false ∧ w.frozen? ⟨p, 1, none⟩ = false ∧ w.frozen? ⟨p, 2, none⟩ = false ∧ w.frozen? ⟨p, 3, none⟩ = false ∧ p < w.heap.size ∧ Hid (BS w g (.slice A xs.length cap) xs ∧ (0 < xs.length → g ≠ p)) ∧ xs.length ≤ cap ∧ cap ≤ 9223372036854775807 := by
  obtain ⟨⟨v, hb, hr, hne⟩, _⟩ := h
  obtain ⟨A, cap, rfl, h1, h2⟩ := hr.val
  exact ⟨A, cap, hb.cell 0, hb.cell 1, hb.cell 2, hb.cell 3, hb.frozen 0, hb.frozen 1, hb.frozen 2, hb.frozen 3, hb.lt, Lib.hid ⟨hr, hne⟩, h1, h2⟩
theorem RIn.pos {m : Nat} (h : RIn w p g xs (.ok () m)) {n : Nat} (hn : n ≤ xs.length) : RIn (w.setCell ⟨p, 1, none⟩ (.int .i64 (n : Int))) p g xs (.ok () n) := by
  obtain ⟨⟨v, hb, hr, hne⟩, _⟩ := h
  exact ⟨⟨v, hb.set_ 1 _, hr.mod ((Mod.refl [p] w).setCell _ (by simp) _) (by simpa using hne), hne⟩, hn, fun _ _ h => by cases h⟩
end
def RdQ {α : Type} (w : World) (p g : Nat) (xs : Bytes) (val : α → Value) (z : Value) (r : Rd α) (e' : Ending) (w' : World) : Prop :=
  e' = .returned (.tuple #[r.valv val z, r.errv]) ∧ RIn w' p g xs r.st ∧ Mod [p] w w'
theorem rtErr : RowT Try.prog 57 2 := ⟨_, Try.underlying57, rfl, by kernel_rfl⟩
theorem Blk.new' {w : World} {n : Nat} {t : TypeId} {cs : Array Value} (h : n = w.heap.size) : Blk (w.alloc (.cells cs t)) n t cs := by rw [h]; exact Blk.new w t cs
theorem refWrong0_any (why at_ : Nat) (hw : why ≠ 0) (p g m : Nat) (xs : Bytes) (w : World) (ha : at_ ≤ xs.length) (hI : RIn w p g xs (.ok () m)) :
    Calls Try.prog 51 #[ptr p, .int .i64 why, .int .i64 at_] w fun e' w' => e' = .returned (errV why at_) ∧ RIn w' p g xs (.bad why at_) ∧ Mod [p] w w' := by
  obtain ⟨A, cap, c0, c1, c2, c3, f0, f1, f2, f3, hl, HB, _, _⟩ := hI.open_
  dsimp only [posOf, whyOf, badAt] at c1 c2 c3
  go_enter Try.func51, Try.ntmps51
  go_wp2
  have hs : ∀ W : World, (((w.setCell ⟨p, 2, none⟩ (.int .i64 why)).setCell ⟨p, 3, none⟩ (.int .i64 at_)).setCell ⟨p, 1, none⟩ (.int .i64 at_)) = W → RIn W p g xs (.bad why at_) ∧ Mod [p] w W := by
    rintro _ rfl
    obtain ⟨⟨v, hb, hr, hne⟩, _⟩ := hI
    have hb1 := ((hb.set_ 2 (.int .i64 why)).set_ 3 (.int .i64 at_)).set_ 1 (.int .i64 at_)
    have hm : Mod [p] w (((w.setCell ⟨p, 2, none⟩ (.int .i64 why)).setCell ⟨p, 3, none⟩ (.int .i64 at_)).setCell ⟨p, 1, none⟩ (.int .i64 at_)) := (((Mod.refl [p] w).setCell _ (by simp) _).setCell _ (by simp) _).setCell _ (by simp) _
    refine ⟨⟨⟨v, hb1, hr.mod hm (by simpa using hne), hne⟩, ha, ?_⟩, hm⟩
    intro y a he
    cases he
    exact hw
  obtain ⟨h1, h2⟩ := hs _ rfl
  refine bodyPost_ret (results_row rtErr rfl rfl (Blk.new' (by simp [World.size_setCell])) rfl) rfl ⟨rfl, h1.mod ((Mod.refl [] _).alloc _) (by simp) (by simp), h2.alloc _⟩
theorem refLeft_any (p g : Nat) (xs : Bytes) (s : Rd Unit) (w : World) (hI : RIn w p g xs s) :
    Calls Try.prog 33 #[ptr p] w fun e' w' => e' = .returned (.int .i64 (xs.length - posOf s : Nat)) ∧ Mod [] w w' := by
  obtain ⟨A, cap, c0, c1, c2, c3, f0, f1, f2, f3, hl, HB, h1, h2⟩ := hI.open_
  have hp := hI.2.1
  generalize posOf s = m at *
  have HE : Hid (((xs.length - m : Nat) : Int) = xs.length - m) := Lib.hid (by omega)
  go_enter Try.func33, Try.ntmps33
  go_wp2
  go_quiet (fail)
  go_wp2
  go_ret
  exact ⟨ret_int HE.out.symm, Mod.of_drewN _ _ _⟩
theorem zag_any (n : Nat) (hn : n < 18446744073709551616) (w : World) : Calls Try.prog 84 #[.int .u64 (n : Int)] w fun e w' => e = .returned (.int .i64 (zag n)) ∧ w = w' := by
  by_cases h : n % 2 = 0
  · have hz : zag n = ((n / 2 : Nat) : Int) := by unfold zag; rw [if_pos h]
    have HZ := Lib.hid hz; clear hz
    have h2 : ((n : Int) % 2) = 0 := by omega
    have h3 : ((n : Int) % 2 == 0) = true := by rw [h2]; rfl
    go_enter Try.func84, Try.ntmps84
    go_wp2
    go_ret
    refine ⟨ret_int ?_, rfl⟩
    rw [HZ.out]
    omega
  · have hz : zag n = -((n / 2 : Nat) : Int) - 1 := by unfold zag; rw [if_neg h]
    have HZ := Lib.hid hz; clear hz
    have h3 : ((n : Int) % 2 == 0) = false := by
      have : ¬ ((n : Int) % 2 = 0) := by omega
      simpa using this
    go_enter Try.func84, Try.ntmps84
    go_wp2
    go_ret
    refine ⟨ret_int ?_, rfl⟩
    rw [HZ.out]
    omega
end Go.Proofs.Ytdiplliemdogfaa
