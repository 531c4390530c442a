import Derived.Test.YtlpjeckhejbkkaaNumber
set_option linter.unusedVariables false
set_option linter.unusedSimpArgs false
set_option maxRecDepth 20000
set_option maxHeartbeats 400000
namespace Go.Proofs.Ytlpjeckhejbkkaa
open Go.RowKit

abbrev ptr (p : Nat) : Value := .pointer (some ⟨p, 0, none⟩)
def badV (q : Nat) : Value := .iface 60 (ptr q)
def BadAt (w : World) (q : Nat) (why at_ : Int) : Prop := Blk w q 62 #[.int .i64 why, .int .i64 at_]
/-- a reader: its struct, its bytes, where it stands, its error -/
def InB (w : World) (p g : Nat) (xs : Bytes) (at_ : Int) (e : Value) : Prop :=
  ∃ v, Blk w p 90 #[v, .int .i64 at_, e] ∧ RS w 1 g v xs.length (xs.map bv) ∧ (0 < xs.length → g ≠ p)
section
variable {w w' : World} {p g : Nat} {xs : Bytes} {at_ : Int} {e : Value}
theorem InB.cells (h : InB w p g xs at_ e) :
   ∃ A cap, w.cell? ⟨p, 0, none⟩ = some (.slice A xs.length cap) ∧ w.cell? ⟨p, 1, none⟩ = some (.int .i64 at_) ∧ w.cell? ⟨p, 2, none⟩ = some e ∧
   w.frozen? ⟨p, 0, none⟩ = false ∧ w.frozen? ⟨p, 1, none⟩ = false ∧ w.frozen? ⟨p, 2, none⟩ = false ∧ p < w.heap.size ∧
   RS w 1 g (.slice A xs.length cap) xs.length (xs.map bv) ∧ (0 < xs.length → g ≠ p) ∧ xs.length ≤ cap ∧ cap ≤ 9223372036854775807 := by
  obtain ⟨v, hb, hr, hne⟩ := h
  obtain ⟨A, cap, rfl, h1, h2⟩ := hr.val
  exact ⟨A, cap, hb.cell 0, hb.cell 1, hb.cell 2, hb.frozen 0, hb.frozen 1, hb.frozen 2, hb.lt, hr, hne, h1, h2⟩
theorem InB.mod {S : List Nat} (h : InB w p g xs at_ e) (hm : Mod S w w') (hp : p ∉ S) (hg : 0 < xs.length → g ∉ S) : InB w' p g xs at_ e := by
  obtain ⟨v, hb, hr, hne⟩ := h
  exact ⟨v, hb.mod hm hp, hr.mod hm hg, hne⟩
theorem InB.set1 {m : Int} (h : InB w p g xs at_ e) : InB (w.setCell ⟨p, 1, none⟩ (.int .i64 m)) p g xs m e := by
  obtain ⟨v, hb, hr, hne⟩ := h
  exact ⟨v, hb.set_ 1 _, hr.mod ((Mod.refl [p] w).setCell _ (by simp) _) (by simpa using hne), hne⟩
theorem InB.set2 {e' : Value} (h : InB w p g xs at_ e) : InB (w.setCell ⟨p, 2, none⟩ e') p g xs at_ e' := by
  obtain ⟨v, hb, hr, hne⟩ := h
  exact ⟨v, hb.set_ 2 _, hr.mod ((Mod.refl [p] w).setCell _ (by simp) _) (by simpa using hne), hne⟩
theorem InB.drewN (h : InB w p g xs at_ e) (k : Nat) : InB (w.drewN k) p g xs at_ e := h
theorem InB.alloc (h : InB w p g xs at_ e) (o : Obj) : InB (w.alloc o) p g xs at_ e := by
  obtain ⟨v, hb, hr, hne⟩ := h
  exact ⟨v, hb.alloc o, hr.mod ((Mod.refl [] w).alloc o) (by simp), hne⟩
theorem InB.lt (h : InB w p g xs at_ e) : p < w.heap.size := by
  obtain ⟨v, hb, _⟩ := h
  exact hb.lt
end

theorem fail_any (why at_ : Int) (p g : Nat) (xs : Bytes) (w : World) (n0 : Int) (e : Value) (hI : InB w p g xs n0 e) :
    Calls Try.prog 69 #[ptr p, .int .i64 why, .int .i64 at_] w fun e' w' => e' = .returned (badV w.heap.size) ∧ BadAt w' w.heap.size why at_ ∧ InB w' p g xs at_ (badV w.heap.size) ∧ Mod [p] w w' := by
  obtain ⟨A, cap, h0, h1, h2, f0, f1, f2, hl, _, _, _, _⟩ := hI.cells
  go_enter Try.func69, Try.ntmps69
  go_wp2
  go_ret
  have hb := Blk.new ((w.setCell ⟨p, 2, none⟩ (badV w.heap.size)).setCell ⟨p, 1, none⟩ (.int .i64 at_)) 62 #[.int .i64 why, .int .i64 at_]
  simp only [World.size_setCell] at hb
  exact ⟨rfl, hb, (hI.set2.set1).alloc _, (((Mod.refl [p] w).setCell _ (by simp) _).setCell _ (by simp) _).alloc _⟩

theorem next_err (n : Int) (p g : Nat) (xs : Bytes) (w : World) (n0 : Int) (q : Nat) (hI : InB w p g xs n0 (badV q)) :
    Calls Try.prog 85 #[ptr p, .int .i64 n] w fun e' w' => e' = .returned (.tuple #[.slice none 0 0, badV q]) ∧ ∃ k, w.drewN k = w' := by
  obtain ⟨A, cap, h0, h1, h2, f0, f1, f2, hl, _, _, _, _⟩ := hI.cells
  unfold badV at h2
  go_enter Try.func85, Try.ntmps85
  go_wp2
  go_quiet (fail)
  go_wp2
  go_ret2
  exact ⟨rfl, _, rfl⟩
theorem next_short (n : Int) (p g : Nat) (xs : Bytes) (w : World) (n0 : Nat) (hI : InB w p g xs n0 .nilIface) (hn0 : n0 ≤ xs.length) (h2 : xs.length < n0 + n) :
    Calls Try.prog 85 #[ptr p, .int .i64 n] w fun e' w' => ∃ q, e' = .returned (.tuple #[.slice none 0 0, badV q]) ∧ BadAt w' q 20 n0 ∧ InB w' p g xs n0 (badV q) ∧ Mod [p] w w' ∧ w.heap.size ≤ q := by
  obtain ⟨A, cap, h0, h1, h2, f0, f1, f2, hl, _, _, _, _⟩ := hI.cells
  go_enter Try.func85, Try.ntmps85
  go_wp2
  go_quiet (fail)
  go_wp2_with fail
  refine (fail_any _ _ p g xs _ _ _ (hI.drewN _)).mono ?_
  rintro e' w1 ⟨rfl, hb, hI1, hm⟩
  go_wp2
  go_ret2
  refine ⟨w.heap.size, rfl, hb, hI1, ?_, Nat.le_refl _⟩
  exact (Mod.of_drewN _ w _).trans hm
def NextOk (w : World) (p g : Nat) (xs : Bytes) (n0 n : Nat) (e' : Ending) (w' : World) : Prop :=
  ∃ v, e' = .returned (.tuple #[v, .nilIface]) ∧ RS w' 1 g v n (((xs.drop n0).take n).map bv) ∧ InB w' p g xs (n0 + n : Nat) .nilIface ∧ Mod [p] w w'
theorem next_ok (n : Nat) (p g : Nat) (xs : Bytes) (w : World) (n0 : Nat) (hI : InB w p g xs n0 .nilIface) (hn : n0 + n ≤ xs.length) :
    Calls Try.prog 85 #[ptr p, .int .i64 n] w (NextOk w p g xs n0 n) := by
  obtain ⟨A, cap, h0, h1, h2, f0, f1, f2, hl, hr, hgp, hlc, hcm⟩ := hI.cells
  have HI := Lib.hid hI; clear hI
  have HR := Lib.hid hr; clear hr
  go_enter Try.func85, Try.ntmps85
  go_wp2
  go_quiet (fail)
  go_wp2_with fail
  go_quiet (fail)
  go_wp2_with fail
  all_goals
    go_ret2
    have hm : ∀ k m, Mod [p] w (((w.drewN k).setCell ⟨p, 1, none⟩ (.int .i64 ((n0 : Int) + n))).drewN m) := fun k m => (((Mod.refl [p] w).drewN k).setCell _ (by simp) _).drewN m
    have hr' : ∀ k m, RS (((w.drewN k).setCell ⟨p, 1, none⟩ (.int .i64 ((n0 : Int) + n))).drewN m) 1 g (.slice A xs.length cap) xs.length (xs.map bv) := fun k m => HR.out.mod (hm k m) (by simpa using hgp)
    have hi : ∀ k m, InB (((w.drewN k).setCell ⟨p, 1, none⟩ (.int .i64 ((n0 : Int) + n))).drewN m) p g xs (n0 + n : Nat) .nilIface := fun k m => (((HI.out.drewN k).set1).drewN m)
    refine ⟨_, rfl, ?_, hi _ _, hm _ _⟩
    rw [List.map_take, List.map_drop]
    exact (hr' _ _).cut1 (by omega) (by omega) (by unfold maxLen; omega) (by intro h; first | rfl | omega)

/-- what a reading answers -/
def RdP {α : Type} (w : World) (p g : Nat) (xs : Bytes) (r : Rd α) (val : α → Value) (z : Value) (e' : Ending) (w' : World) : Prop :=
  match r with
  | .ok a pos => e' = .returned (.tuple #[val a, .nilIface]) ∧ InB w' p g xs pos .nilIface ∧ Mod [p] w w'
  | .bad why at_ => ∃ q, e' = .returned (.tuple #[z, badV q]) ∧ BadAt w' q why at_ ∧ InB w' p g xs at_ (badV q) ∧ Mod [p] w w' ∧ w.heap.size ≤ q

def NewInP (w : World) (xs : Bytes) (e' : Ending) (w' : World) : Prop :=
  ∃ p g', e' = .returned (ptr p) ∧ InB w' p g' xs 0 .nilIface ∧ Mod [] w w' ∧ w.heap.size ≤ p ∧ (0 < xs.length → w.heap.size ≤ g')
theorem newIn_any (sv : Value) (g : Nat) (xs : Bytes) (w : World) (hs : RS w 1 g sv xs.length (xs.map bv)) (hz : xs.length ≤ 140737488355328) :
    Calls Try.prog 26 #[sv] w (NewInP w xs) := by
  have HS := Lib.hid hs; clear hs
  go_enter Try.func26, Try.ntmps26
  go_wp2_with (at_builtin; refine wpList_append_bytes rfl _ _ rfl (OwnB.nil w) rfl HS.out rfl ?_ ?hz; intro A1 n1 cap1 w1 hown hn1 hm1 hf1)
  case hz => simp; omega
  go_ret
  obtain ⟨g', hr, hg⟩ := hown.bs
  simp only [List.nil_append] at hr hg
  have hb := Blk.new w1 90 #[.slice A1 n1 cap1, .int .i64 0, .nilIface]
  have hlt := hown.lt
  refine ⟨w1.heap.size, g', rfl, ⟨_, hb, hr.mod ((Mod.refl [] w1).alloc _) (by simp), fun h => ?_⟩, (hm1.mono (by simp [blks, Value.ownBlock])).alloc _, hm1.size, fun h => ?_⟩
  · have := hlt _ (hg h); omega
  · rcases hf1.out _ (hg h) with h1 | h1
    · simp [blks, Value.ownBlock] at h1
    · omega
theorem quietv {P : Program} {f : FuncId} {args : Array Value} {w : World} {v : Value} {n : Nat} (h : Calls P f args w fun e w' => e = .returned v ∧ w.drewN n = w') : Calls P f args w fun e w' => e = .returned v ∧ ∃ k, w.drewN k = w' :=
  h.mono fun _ _ ⟨a, b⟩ => ⟨a, _, b⟩
theorem at_any (p g : Nat) (xs : Bytes) (w : World) (n0 : Int) (e : Value) (hI : InB w p g xs n0 e) :
    Calls Try.prog 48 #[ptr p] w fun e' w' => e' = .returned (.int .i64 n0) ∧ w = w' := by
  obtain ⟨A, cap, h0, h1, h2, f0, f1, f2, hl, _, _, _, _⟩ := hI.cells
  go_enter Try.func48, Try.ntmps48
  go_wp2
  go_ret
  exact ⟨rfl, rfl⟩
theorem left_any (p g : Nat) (xs : Bytes) (w : World) (n0 : Nat) (e : Value) (hI : InB w p g xs n0 e) (hn : n0 ≤ xs.length) :
    Calls Try.prog 103 #[ptr p] w fun e' w' => e' = .returned (.int .i64 (xs.length - n0 : Nat)) ∧ ∃ k, w.drewN k = w' := by
  obtain ⟨A, cap, h0, h1, h2, f0, f1, f2, hl, _, _, _, _⟩ := hI.cells
  have HE : Hid (((xs.length - n0 : Nat) : Int) = xs.length - n0) := Lib.hid (by omega)
  rw [HE.out]
  go_enter Try.func103, Try.ntmps103
  go_wp2
  go_quiet (fail)
  go_wp2
  go_ret
  exact ⟨rfl, _, rfl⟩
theorem rdNum_cases (xs : Bytes) (n0 most : Nat) :
    ((numAt 0 0 (xs.drop n0)).2.2 = 0 ∧ (numAt 0 0 (xs.drop n0)).1 ≤ most ∧ rdNum xs n0 most = .ok (numAt 0 0 (xs.drop n0)).1 (n0 + (numAt 0 0 (xs.drop n0)).2.1)) ∨
    ((numAt 0 0 (xs.drop n0)).2.2 = 0 ∧ most < (numAt 0 0 (xs.drop n0)).1 ∧ rdNum xs n0 most = .bad 22 n0) ∨
    ((numAt 0 0 (xs.drop n0)).2.2 ≠ 0 ∧ rdNum xs n0 most = .bad (numAt 0 0 (xs.drop n0)).2.2 n0) := by
  unfold rdNum
  by_cases h : (numAt 0 0 (xs.drop n0)).2.2 = 0
  · by_cases h2 : most < (numAt 0 0 (xs.drop n0)).1
    · exact .inr (.inl ⟨h, h2, by simp only [h, if_true]; rw [if_pos h2]⟩)
    · exact .inl ⟨h, by omega, by simp only [h, if_true]; rw [if_neg h2]⟩
  · exact .inr (.inr ⟨h, by simp only [h, if_false]⟩)
theorem inNumber_any (most : Nat) (p g : Nat) (xs : Bytes) (w : World) (n0 : Nat) (hI : InB w p g xs n0 .nilIface) (hn : n0 ≤ xs.length) (hm : most < 18446744073709551616) :
    Calls Try.prog 65 #[ptr p, .int .u64 most] w (RdP w p g xs (rdNum xs n0 most) (fun x => .int .u64 (x : Nat)) (.int .u64 0)) := by
  obtain ⟨A, cap, h0, h1, h2, f0, f1, f2, hl, hr, hgp, hlc, hcm⟩ := hI.cells
  have HI := Lib.hid hI; clear hI
  have hcut : ∀ k A' c', (0 < xs.length - n0 → A' = A.map (·.add n0)) → xs.length - n0 ≤ c' → c' ≤ cap → Calls Try.prog 86 #[.slice A' (xs.length - n0) c'] (w.drewN k) fun e w' =>
      e = .returned (.tuple #[.int .u64 (numAt 0 0 (xs.drop n0)).1, .int .i64 (numAt 0 0 (xs.drop n0)).2.1, .int .i64 (numAt 0 0 (xs.drop n0)).2.2]) ∧ w.drewN k = w' := by
    intro k A' c' hA h1 h2
    have := (hr.drewN k).cut1 (lo := n0) (n := xs.length - n0) (c' := c') (A' := A') (by omega) h1 (by unfold maxLen; omega) hA
    rw [← List.map_drop, List.take_of_length_le (by simp)] at this
    exact number_any g (xs.drop n0) _ _ (by rw [List.length_drop]; exact this)
  have HC := Lib.hid hcut; clear hcut hr
  have hb := numAt_bounds (xs.drop n0) 0 0 (by omega) (by omega)
  have hcs := rdNum_cases xs n0 most
  rw [List.length_drop] at hb
  generalize numAt 0 0 (xs.drop n0) = t at *
  obtain ⟨x, n, why⟩ := t
  simp only at hb hcs HC
  have HB := Lib.hid hb; clear hb
  clear hm
  rcases hcs with ⟨h3, h4, h5⟩ | ⟨h3, h4, h5⟩ | ⟨h3, h5⟩
  · subst h3
    have H5 := Lib.hid h5; clear h5
    obtain ⟨hx, hn1, hn2⟩ : Hid (x < 18446744073709551616) ∧ 0 < n ∧ n ≤ xs.length - n0 := by
      rcases HB.out with ⟨_, h1, h2, h3, _⟩ | ⟨h1, _⟩
      · exact ⟨Lib.hid h1, h2, by omega⟩
      · simp at h1
    go_enter Try.func65, Try.ntmps65
    go_wp2
    go_quiet ((go_at_call 86; exact quiet_left (HC.out _ _ _ (by intro h; first | rfl | rw [if_neg (by omega)] | omega) (by omega) (by omega))))
    go_wp2
    all_goals
      go_ret2
      rw [H5.out]
      exact ⟨rfl, (HI.out.drewN _).set1, ((Mod.refl [p] w).drewN _).setCell _ (by simp) _⟩
  · subst h3
    have H5 := Lib.hid h5; clear h5
    go_enter Try.func65, Try.ntmps65
    go_wp2
    go_quiet ((go_at_call 86; exact quiet_left (HC.out _ _ _ (by intro h; first | rfl | rw [if_neg (by omega)] | omega) (by omega) (by omega))))
    go_wp2_with fail
    all_goals
      refine (fail_any _ _ p g xs _ _ _ (HI.out.drewN _)).mono ?_
      rintro e' w1 ⟨rfl, hb, hI1, hm⟩
      go_wp2
      go_ret2
      rw [H5.out]
      exact ⟨_, rfl, hb, hI1, (Mod.of_drewN _ w _).trans hm, Nat.le_refl _⟩
  · have H5 := Lib.hid h5; clear h5
    have hwhy : ((why : Int) == 0) = false := by simp [h3]
    go_enter Try.func65, Try.ntmps65
    go_wp2
    go_quiet ((go_at_call 86; exact quiet_left (HC.out _ _ _ (by intro h; first | rfl | rw [if_neg (by omega)] | omega) (by omega) (by omega))))
    go_wp2_with fail
    all_goals
      refine (fail_any _ _ p g xs _ _ _ (HI.out.drewN _)).mono ?_
      rintro e' w1 ⟨rfl, hb, hI1, hm⟩
      go_wp2
      go_ret2
      rw [H5.out]
      exact ⟨_, rfl, hb, hI1, (Mod.of_drewN _ w _).trans hm, Nat.le_refl _⟩
end Go.Proofs.Ytlpjeckhejbkkaa
