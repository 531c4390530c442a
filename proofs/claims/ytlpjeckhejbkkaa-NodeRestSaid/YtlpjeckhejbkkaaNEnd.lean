import Derived.Test.YtlpjeckhejbkkaaNBad
set_option linter.unusedVariables false
set_option linter.unusedSimpArgs false
set_option maxRecDepth 20000
set_option maxHeartbeats 400000
namespace Go.Proofs.Ytlpjeckhejbkkaa
open Go.RowKit

/-- what the end of the bytes answers -/
def EndP (w : World) (p g : Nat) (xs : Bytes) (n0 : Nat) (e' : Ending) (w' : World) : Prop :=
  if n0 < xs.length then ∃ q, e' = .returned (badV q) ∧ BadAt w' q 23 n0 ∧ InB w' p g xs n0 (badV q) ∧ Mod [p] w w' ∧ w.heap.size ≤ q
  else e' = .returned .nilIface ∧ InB w' p g xs n0 .nilIface ∧ Mod [p] w w'
theorem inEnd_any (p g : Nat) (xs : Bytes) (w : World) (n0 : Nat) (hI : InB w p g xs n0 .nilIface) (hn : n0 ≤ xs.length) :
    Calls Try.prog 53 #[ptr p] w (EndP w p g xs n0) := by
  obtain ⟨A, cap, h0, h1, h2, f0, f1, f2, hl, hr, hgp, hlc, hcm⟩ := hI.cells
  have HI := Lib.hid hI; clear hI hr
  by_cases hlt : n0 < xs.length
  · have HE : Hid (∀ e w', EndP w p g xs n0 e w' = ∃ q, e = .returned (badV q) ∧ BadAt w' q 23 n0 ∧ InB w' p g xs n0 (badV q) ∧ Mod [p] w w' ∧ w.heap.size ≤ q) := Lib.hid (fun e w' => by unfold EndP; rw [if_pos hlt])
    go_enter Try.func53, Try.ntmps53
    go_wp2
    go_quiet (fail)
    go_wp2_with fail
    refine (fail_any _ _ p g xs _ _ _ (HI.out.drewN _)).mono ?_
    rintro e' w1 ⟨rfl, hb, hI1, hm⟩
    go_wp2
    go_ret
    rw [HE.out]
    exact ⟨_, rfl, hb, hI1, (Mod.of_drewN _ w _).trans hm, Nat.le_refl _⟩
  · have HE : Hid (∀ e w', EndP w p g xs n0 e w' = (e = .returned .nilIface ∧ InB w' p g xs n0 .nilIface ∧ Mod [p] w w')) := Lib.hid (fun e w' => by unfold EndP; rw [if_neg hlt])
    have hd : ¬ ((n0 : Int) < xs.length) := by omega
    go_enter Try.func53, Try.ntmps53
    go_wp2
    go_quiet (fail)
    go_wp2
    go_ret
    rw [HE.out]
    exact ⟨rfl, HI.out.drewN _, Mod.of_drewN _ w _⟩
end Go.Proofs.Ytlpjeckhejbkkaa
