import Derived.Test.YtlpjeckhejbkkaaFix
set_option linter.unusedVariables false
set_option linter.unusedSimpArgs false
set_option maxRecDepth 20000
set_option maxHeartbeats 800000
namespace Go.Proofs.Ytlpjeckhejbkkaa
open Go.RowKit

/-! ### a new variable of several cells, zero -/
theorem zero_run {P : Program} {ty : TypeId} {z : Value} (hi : (P.info? ty).map (·.zero) = some (some z)) (w : World) : (zeroValue ty).run P w = .ok z w := by
  rcases h : P.info? ty with _ | i
  · rw [h] at hi; cases hi
  · rw [h] at hi
    injection hi with hi
    simp [zeroValue, typeInfo, h, hi]
theorem wpList_alloc {P : Program} {ty : TypeId} {ops : Array Oper} {rest : List Oper} {op : Oper} {a : Act} {w : World} {Q : Exit → Act → World → Prop} {cs : List Value} (hz : ∀ w, (zeroValue ty).run P w = .ok (.agg cs.toArray) w) (ho : op.op = .alloc ty) (hgd : Region.wanted op (yielded ops a.tmps) = true)
    (h : ∀ q w1, Blk w1 q ty cs.toArray → Mod [] w w1 → w.heap.size ≤ q → q < w1.heap.size → wpList P ops Q rest (a.put op.dst (.pointer (some ⟨q, 0, none⟩))) w1) : wpList P ops Q (op :: rest) a w := by
  refine BigFrame.wpList_want hgd fun K hK => ?_
  have hr : (Instr.alloc ty true (.tuple #[])).run P w = .ok (.pointer (some ⟨w.heap.size, 0, none⟩)) (w.alloc (.cells cs.toArray ty)) := by
    simp [Instr.alloc, hz, newVar, newRow, Value.cells]
  unfold Oper.wp execOp
  simp only [ho, Sem.run_bind, hr, Result.andThen_ok, Sem.run_pure]
  exact hK _ _ (h _ _ (Blk.new w ty _) ((Mod.refl [] w).alloc _) (Nat.le_refl _) (by simp))
theorem zeroOp_run (w : World) : (zeroValue 74).run Try.prog w = .ok (.agg GOp.zero.cells.toArray) w := zero_run (by kernel_rfl) w
theorem wpList_alloc_op {ops : Array Oper} {rest : List Oper} {op : Oper} {a : Act} {w : World} {Q : Exit → Act → World → Prop} (ho : op.op = .alloc 74) (hgd : Region.wanted op (yielded ops a.tmps) = true)
    (h : ∀ q w1, OpV w1 q GOp.zero → Mod [] w w1 → w.heap.size ≤ q → q < w1.heap.size → wpList Try.prog ops Q rest (a.put op.dst (.pointer (some ⟨q, 0, none⟩))) w1) : wpList Try.prog ops Q (op :: rest) a w :=
  wpList_alloc zeroOp_run ho hgd h
theorem wpList_store_opV {ops : Array Oper} {rest : List Oper} {op : Oper} {a : Act} {w : World} {Q : Exit → Act → World → Prop} (x y : Operand) (ho : op.op = .store 74 x y) (hgd : Region.wanted op (yielded ops a.tmps) = true) {g : Nat} {o old : GOp} (hx : a.eval x = .pointer (some ⟨g, 0, none⟩)) (hy : a.eval y = o.val) (hb : OpV w g old)
    (h : ∀ w', OpV w' g o → Mod [g] w w' → wpList Try.prog ops Q rest (a.put op.dst undef) w') : wpList Try.prog ops Q (op :: rest) a w :=
  wpList_store_op x y ho hgd hx hy hb (by simp [GOp.cells_length]) h
theorem OpV.alloc {w : World} {q : Nat} {o : GOp} (h : OpV w q o) (x : Obj) : OpV (w.alloc x) q o := Blk.alloc h x
theorem OpV.set1 {w : World} {q : Nat} {o : GOp} (h : OpV w q o) (s : ByteArray) : OpV (w.setCell ⟨q, 1, none⟩ (.string s)) q { o with key := s } := Blk.set_ h 1 _
theorem rdRaw_ok {xs : Bytes} {pos n p2 : Nat} {b : Bytes} (h : rdRaw xs pos n = .ok b p2) : p2 = pos + n ∧ p2 ≤ xs.length ∧ b = (xs.drop pos).take n := by
  unfold rdRaw at h
  split at h
  · cases h
  · cases h
    exact ⟨rfl, by omega, rfl⟩
theorem rdText_ok {xs : Bytes} {pos p2 : Nat} {s : ByteArray} (h : rdText xs pos = .ok s p2) (hn : pos ≤ xs.length) : pos < p2 ∧ p2 ≤ xs.length ∧ s.size ≤ 65536 := by
  unfold rdText rdBytes at h
  rcases h1 : rdNum xs pos 65536 with ⟨n, p⟩ | ⟨w, a⟩
  · rw [h1] at h
    obtain ⟨h2, h3, h4, _⟩ := rdNum_ok h1 hn
    simp only [Rd.bind] at h
    rcases h5 : rdRaw xs p n with ⟨b, q⟩ | ⟨w, a⟩
    · rw [h5] at h
      obtain ⟨h6, h7, h8⟩ := rdRaw_ok h5
      injection h with h9 h10
      subst h9 h10
      refine ⟨by omega, h7, ?_⟩
      have : (ByteArray.size ⟨b.toArray⟩) = b.length := by simp [ByteArray.size]
      rw [this, h8]
      simp
      omega
    · rw [h5] at h; cases h
  · rw [h1] at h; cases h
theorem rdHash_ok {xs : Bytes} {pos p2 : Nat} {s : GHash} (h : rdHash xs pos = .ok s p2) : p2 = pos + 32 ∧ p2 ≤ xs.length := by
  unfold rdHash at h
  split at h
  · cases h; exact ⟨rfl, by omega⟩
  · cases h
theorem rdFld_ok {xs : Bytes} {f : Fld} {pos p2 : Nat} {o o' : GOp} (h : rdFld f xs pos o = .ok o' p2) (hn : pos ≤ xs.length) : pos < p2 ∧ p2 ≤ xs.length := by
  cases f
  · simp only [rdFld] at h
    rcases h1 : rdText xs pos with ⟨n, p⟩ | ⟨w, a⟩
    · rw [h1] at h
      cases h
      exact ⟨(rdText_ok h1 hn).1, (rdText_ok h1 hn).2.1⟩
    · rw [h1] at h; cases h
  · simp only [rdFld, rdSigned] at h
    rcases h1 : rdNum xs pos 18446744073709551615 with ⟨n, p⟩ | ⟨w, a⟩
    · rw [h1] at h
      cases h
      exact ⟨(rdNum_ok h1 hn).2.1, (rdNum_ok h1 hn).2.2.1⟩
    · rw [h1] at h; cases h
  · simp only [rdFld] at h
    rcases h1 : rdNum xs pos 1024 with ⟨n, p⟩ | ⟨w, a⟩
    · rw [h1] at h
      obtain ⟨_, h3, h4, _⟩ := rdNum_ok h1 hn
      simp only [Rd.bind] at h
      split at h
      · cases h; exact ⟨h3, h4⟩
      · rcases h5 : rdHash xs p with ⟨b, q⟩ | ⟨w, a⟩
        · rw [h5] at h
          cases h
          obtain ⟨h6, h7⟩ := rdHash_ok h5
          exact ⟨by omega, h7⟩
        · rw [h5] at h; cases h
    · rw [h1] at h; cases h
/-! ### reading, field by field -/
def foldFld (xs : Bytes) : List Fld → Nat → Nat → GOp → Rd (GOp × Nat)
  | [], pos, place, o => .ok (o, place) pos
  | f :: l, pos, _, o => (rdFld f xs pos o).bind fun o' p => foldFld xs l p pos o'
theorem rdFld_kind {xs : Bytes} {f : Fld} {pos p2 : Nat} {o o' : GOp} (h : rdFld f xs pos o = .ok o' p2) : o'.kind = o.kind := by
  cases f <;> simp only [rdFld] at h
  · cases h1 : rdText xs pos <;> rw [h1] at h <;> cases h; rfl
  · cases h1 : rdSigned xs pos <;> rw [h1] at h <;> cases h; rfl
  · cases h1 : rdNum xs pos 1024 with
    | bad w a => rw [h1] at h; cases h
    | ok n p =>
      rw [h1] at h
      simp only [Rd.bind] at h
      split at h
      · cases h; rfl
      · cases h5 : rdHash xs p <;> rw [h5] at h <;> cases h; rfl
theorem Rd.bind_assoc {α β γ : Type} (r : Rd α) (f : α → Nat → Rd β) (g : β → Nat → Rd γ) : (r.bind f).bind g = r.bind fun a p => (f a p).bind g := by cases r <;> rfl
def key0 (k : UInt8) (key : ByteArray) : GOp := ⟨k.toNat, key, ⟨#[]⟩, 0, GIdent.zero⟩
theorem rdOp_eq (xs : Bytes) (pos : Nat) (done : List GOp) : rdOp xs pos done = (rdByte xs pos).bind fun k p1 => if known k.toNat = false then .bad 40 pos else
    (rdText xs p1).bind fun key p2 => (foldFld xs (hasF k.toNat) p2 pos (key0 k key)).bind fun r p => if hasAt k.toNat && !atMay done r.1 then .bad 42 r.2 else .ok r.1 p := by
  unfold rdOp
  congr 1
  funext k p1
  split
  · rfl
  · rename_i hk
    congr 1
    funext key p2
    have hk : (1 : Int) ≤ (k.toNat : Int) ∧ (k.toNat : Int) ≤ 9 := by
      rcases h : known (k.toNat : Int)
      · exact absurd h hk
      · unfold known at h; exact of_decide_eq_true h
    unfold key0
    generalize (k.toNat : Int) = n at hk
    have h9 : n = 1 ∨ n = 2 ∨ n = 3 ∨ n = 4 ∨ n = 5 ∨ n = 6 ∨ n = 7 ∨ n = 8 ∨ n = 9 := by omega
    have hat : ∀ p4 (o : GOp), (rdAt xs p4).bind (fun a p5 => if atMay done { o with at_ := a } then Rd.ok ({ o with at_ := a } : GOp) p5 else .bad 42 p4) =
        (rdFld .at_ xs p4 { o with at_ := GIdent.zero }).bind fun r p => if atMay done r = false then .bad 42 p4 else .ok r p := by
      intro p4 o
      unfold rdAt rdFld
      simp only [Rd.bind_assoc]
      congr 1
      funext m p
      split
      · simp only [Rd.bind]
        split <;> simp_all
      · simp only [Rd.bind_assoc]
        congr 1
        funext h q
        simp only [Rd.bind]
        split <;> simp_all
    rcases h9 with rfl | rfl | rfl | rfl | rfl | rfl | rfl | rfl | rfl
    all_goals simp [hasText, hasAt, hasF, foldFld, Rd.bind]
    · simp only [rdFld]; cases rdText xs p2 <;> rfl
    · simp only [rdFld]; cases rdText xs p2 <;> rfl
    · simp only [rdFld]; cases rdText xs p2 <;> rfl
    · simp only [rdFld]; cases rdSigned xs p2 <;> rfl
    · simp only [rdFld]
      cases rdText xs p2 with
      | bad w a => rfl
      | ok a p =>
        have h := hat p ⟨8, key, a, 0, GIdent.zero⟩
        unfold Rd.bind at h
        simp only [rdFld] at h
        simp only [Rd.bind] at h ⊢
        rw [h]
        split <;> simp_all
    · have h := hat p2 ⟨9, key, ⟨#[]⟩, 0, GIdent.zero⟩
      simp only [rdFld, Rd.bind] at h ⊢
      rw [h]
      split <;> simp_all
end Go.Proofs.Ytlpjeckhejbkkaa
