import Derived.Test.YtlpjeckhejbkkaaGet
set_option linter.unusedVariables false
set_option linter.unusedSimpArgs false
set_option maxRecDepth 20000
set_option maxHeartbeats 400000
namespace Go.Proofs.Ytlpjeckhejbkkaa
open Go.RowKit

/-! ### parts of a slice of bytes -/
theorem BS.part {w : World} {g L cap lo n c' : Nat} {A A' : Option Addr} {xs : Bytes} (h : BS w g (.slice A L cap) xs) (hlo : lo + n ≤ xs.length) (hn : n ≤ c') (hc : c' ≤ maxLen) (hA : 0 < n → A' = A.map (·.add lo)) : BS w g (.slice A' n c') ((xs.drop lo).take n) := by
  obtain ⟨A1, cap1, hv, _, _⟩ := h.val
  injection hv with h1 h2 h3
  subst h1 h2 h3
  have := RS.cut1 h hlo hn hc hA
  unfold BS
  have e : ((xs.drop lo).take n).length = n := by simp; omega
  rw [e, List.map_take, List.map_drop]
  exact this
theorem BS.take {w : World} {g L cap n : Nat} {A : Option Addr} {xs : Bytes} (h : BS w g (.slice A L cap) xs) (hn : n ≤ xs.length) : BS w g (.slice A n cap) (xs.take n) := by
  obtain ⟨A1, cap1, hv, h4, h5⟩ := h.val
  injection hv with h1 h2 h3
  subst h1 h2 h3
  have := BS.part (lo := 0) (n := n) (c' := cap) (A' := A) h (by omega) (by omega) h5 (by intro _; cases A <;> simp [Addr.add])
  simpa using this
/-! ### the plain law: what is read is what would be laid -/
def cut (xs : Bytes) (a b : Nat) : Bytes := (xs.drop a).take (b - a)
theorem cut_cat {xs : Bytes} {a b c : Nat} (h1 : a ≤ b) (h2 : b ≤ c) : cut xs a b ++ cut xs b c = cut xs a c := by
  unfold cut
  have e : xs.drop b = (xs.drop a).drop (b - a) := by rw [List.drop_drop]; congr 1; omega
  rw [e]
  have := List.take_add (l := xs.drop a) (i := b - a) (j := c - b)
  rw [show b - a + (c - b) = c - a by omega] at this
  exact this.symm
theorem cut_self (xs : Bytes) (a : Nat) : cut xs a a = [] := by simp [cut]
theorem numAt_ok (bs : Bytes) : ∀ (i acc x k : Nat), numAt i acc bs = (x, k, 0) → ∃ y, x = acc + y * 128 ^ i ∧ i < k ∧ bs.take (k - i) = putNum y ∧ (0 < i → y ≠ 0) := by
  induction bs with
  | nil => intro i acc x k h; unfold numAt at h; split at h <;> simp at h
  | cons c r ih =>
    intro i acc x k h
    have hc := c.toNat_lt
    unfold numAt at h
    split at h
    · simp at h
    · split at h
      · simp at h
      · split at h
        · rename_i hlt
          split at h
          · simp at h
          · rename_i h0
            simp only [Prod.mk.injEq, and_true] at h
            obtain ⟨rfl, rfl⟩ := h
            refine ⟨c.toNat, rfl, by omega, ?_, fun hi hc0 => h0 ⟨hc0, hi⟩⟩
            rw [show i + 1 - i = 1 by omega, putNum_lt hlt]
            simp
        · rename_i hge
          obtain ⟨y, hx, hk, ht, hy⟩ := ih _ _ _ _ h
          have hy0 := hy (by omega)
          refine ⟨c.toNat % 128 + 128 * y, ?_, by omega, ?_, fun _ => by omega⟩
          · rw [hx, Nat.pow_succ, Nat.add_mul, Nat.mul_assoc 128 y, Nat.mul_comm (128 ^ i) 128, ← Nat.mul_assoc y, Nat.mul_comm y 128]
            have : 128 * y * 128 ^ i = 128 * (y * 128 ^ i) := Nat.mul_assoc _ _ _
            omega
          · rw [show k - i = (k - (i + 1)) + 1 by omega, List.take_succ_cons, ht, putNum_ge (x := c.toNat % 128 + 128 * y) (by omega)]
            have e1 : (c.toNat % 128 + 128 * y) % 128 + 128 = c.toNat := by omega
            have e2 : (c.toNat % 128 + 128 * y) / 128 = y := by omega
            rw [e1, e2]
            simp
theorem rdNum_cut {xs : Bytes} {pos most x p : Nat} (h : rdNum xs pos most = .ok x p) : cut xs pos p = putNum x ∧ pos < p := by
  unfold rdNum at h
  rcases h1 : numAt 0 0 (xs.drop pos) with ⟨y, k, e⟩
  rw [h1] at h
  simp only at h
  split at h
  · rename_i he
    subst he
    split at h
    · cases h
    · cases h
      obtain ⟨z, hz, hk, ht, _⟩ := numAt_ok _ _ _ _ _ h1
      simp only [Nat.zero_add, Nat.pow_zero, Nat.mul_one, Nat.sub_zero] at hz ht
      subst hz
      unfold cut
      exact ⟨by rw [show pos + k - pos = k by omega]; exact ht, by omega⟩
  · cases h
theorem zig_zag (n : Nat) : zig (zag n) = n := by
  unfold zig zag
  by_cases h : n % 2 = 0
  · rw [if_pos h, if_pos (by omega)]; omega
  · rw [if_neg h, if_neg (by omega)]; omega
theorem rdRaw_cut {xs : Bytes} {pos n p : Nat} {b : Bytes} (h : rdRaw xs pos n = .ok b p) : cut xs pos p = b ∧ pos ≤ p ∧ b.length = n := by
  obtain ⟨h1, h2, h3⟩ := rdRaw_ok h
  subst h1 h3
  unfold cut
  exact ⟨by rw [show pos + n - pos = n by omega], by omega, by simp; omega⟩
theorem rdText_cut {xs : Bytes} {pos p : Nat} {s : ByteArray} (h : rdText xs pos = .ok s p) : cut xs pos p = putText s ∧ pos ≤ p := by
  unfold rdText rdBytes at h
  rcases h1 : rdNum xs pos 65536 with ⟨n, p1⟩ | ⟨w, a⟩
  · rw [h1] at h
    simp only [Rd.bind] at h
    obtain ⟨h2, h3⟩ := rdNum_cut h1
    rcases h5 : rdRaw xs p1 n with ⟨b, q⟩ | ⟨w, a⟩
    · rw [h5] at h
      obtain ⟨h6, h7, h8⟩ := rdRaw_cut h5
      injection h with h9 h10
      subst h9 h10
      refine ⟨?_, by omega⟩
      rw [← cut_cat (Nat.le_of_lt h3) h7, h2, h6]
      unfold putText
      have : (ByteArray.size ⟨b.toArray⟩) = b.length := by simp [ByteArray.size]
      rw [this, h8]
    · rw [h5] at h; cases h
  · rw [h1] at h; cases h
theorem rdHash_cut {xs : Bytes} {pos p : Nat} {s : GHash} (h : rdHash xs pos = .ok s p) : cut xs pos p = s.l ∧ pos ≤ p := by
  unfold rdHash at h
  split at h
  · cases h
    exact ⟨by unfold cut; rw [show pos + 32 - pos = 32 by omega], by omega⟩
  · cases h
/-- what a field has read -/
theorem rdSigned_cut {xs : Bytes} {pos p : Nat} {n : Int} (h : rdSigned xs pos = .ok n p) (hn : pos ≤ xs.length) : cut xs pos p = putNum (zig n) ∧ pos ≤ p ∧ -9223372036854775808 ≤ n ∧ n ≤ 9223372036854775807 := by
  unfold rdSigned at h
  rcases h1 : rdNum xs pos 18446744073709551615 with ⟨k, p1⟩ | ⟨w, a⟩
  · rw [h1] at h
    cases h
    obtain ⟨h2, h3⟩ := rdNum_cut h1
    obtain ⟨h4, _⟩ := rdNum_ok h1 hn
    refine ⟨by rw [zig_zag]; exact h2, by omega, ?_, ?_⟩ <;> (unfold zag; split <;> omega)
  · rw [h1] at h; cases h
theorem rdAt_cut {xs : Bytes} {pos p : Nat} {a : GIdent} (h : rdAt xs pos = .ok a p) : cut xs pos p = putAt a ∧ pos ≤ p := by
  unfold rdAt at h
  rcases h1 : rdNum xs pos 1024 with ⟨k, p1⟩ | ⟨w, a⟩
  · rw [h1] at h
    simp only [Rd.bind] at h
    obtain ⟨h2, h3⟩ := rdNum_cut h1
    split at h
    · rename_i hk
      subst hk
      cases h
      exact ⟨by rw [h2]; simp [putAt, GIdent.zero], by omega⟩
    · rename_i hk
      rcases h4 : rdHash xs p1 with ⟨b, q⟩ | ⟨w, a⟩
      · rw [h4] at h
        cases h
        obtain ⟨h5, h6⟩ := rdHash_cut h4
        refine ⟨?_, by omega⟩
        rw [← cut_cat (Nat.le_of_lt h3) h6, h2, h5]
        simp [putAt, hk]
      · rw [h4] at h; cases h
  · rw [h1] at h; cases h
theorem rdByte_cut {xs : Bytes} {pos p : Nat} {k : UInt8} (h : rdByte xs pos = .ok k p) : cut xs pos p = [k] ∧ pos < p ∧ p ≤ xs.length := by
  unfold rdByte at h
  split at h
  · rename_i hlt
    cases h
    refine ⟨?_, by omega, by omega⟩
    unfold cut
    rw [show pos + 1 - pos = 1 by omega, List.drop_eq_getElem_cons hlt]
    rfl
  · cases h
theorem rdOp_cut {xs : Bytes} {pos p : Nat} {done : List GOp} {o : GOp} (h : rdOp xs pos done = .ok o p) (hn : pos ≤ xs.length) (hd : done.length ≤ 1024) : cut xs pos p = putOp o ∧ pos ≤ p ∧ wrongOp done o = 0 ∧ o.nums := by
  unfold rdOp at h
  rcases h1 : rdByte xs pos with ⟨k, p1⟩ | ⟨w, a⟩
  · rw [h1] at h
    obtain ⟨c1, l1, m1⟩ := rdByte_cut h1
    simp only [Rd.bind] at h
    split at h
    · cases h
    · rename_i hk
      have hk : known (k.toNat : Int) = true := by simpa using hk
      have hk8 := k.toNat_lt
      have hkr : (1 : Int) ≤ (k.toNat : Int) ∧ (k.toNat : Int) ≤ 9 := by unfold known at hk; exact of_decide_eq_true hk
      rcases h2 : rdText xs p1 with ⟨key, p2⟩ | ⟨w, a⟩
      · rw [h2] at h
        obtain ⟨c2, l2⟩ := rdText_cut h2
        obtain ⟨_, m2, s2⟩ := rdText_ok h2 m1
        simp only at h
        have text : ∀ (r : Rd ByteArray), (if hasText (k.toNat : Int) then rdText xs p2 else .ok ⟨#[]⟩ p2) = r → ∀ t p3, r = .ok t p3 → cut xs p2 p3 = (if hasText (k.toNat : Int) then putText t else []) ∧ p2 ≤ p3 ∧ p3 ≤ xs.length ∧ t.size ≤ 65536 ∧ (hasText (k.toNat : Int) = false → t.size = 0) := by
          intro r hr t p3 ht
          subst ht
          split at hr
          · rename_i hT
            obtain ⟨c3, l3⟩ := rdText_cut hr
            obtain ⟨_, m3, s3⟩ := rdText_ok hr m2
            exact ⟨by rw [if_pos hT]; exact c3, l3, m3, s3, fun hf => by rw [hf] at hT; cases hT⟩
          · rename_i hT
            cases hr
            exact ⟨by rw [if_neg hT]; exact cut_self _ _, by omega, m2, by decide, fun _ => rfl⟩
        rcases h3 : (if hasText (k.toNat : Int) then rdText xs p2 else .ok ⟨#[]⟩ p2 : Rd ByteArray) with ⟨t, p3⟩ | ⟨w, a⟩
        · rw [h3] at h
          obtain ⟨c3, l3, m3, s3, z3⟩ := text _ h3 t p3 rfl
          simp only at h
          have numb : ∀ (r : Rd Int), (if (k.toNat : Int) = 6 then rdSigned xs p3 else .ok 0 p3) = r → ∀ n p4, r = .ok n p4 → cut xs p3 p4 = (if (k.toNat : Int) = 6 then putNum (zig n) else []) ∧ p3 ≤ p4 ∧ (-9223372036854775808 ≤ n ∧ n ≤ 9223372036854775807) ∧ ((k.toNat : Int) ≠ 6 → n = 0) := by
            intro r hr n p4 ht
            subst ht
            split at hr
            · rename_i hT
              obtain ⟨c4, l4, b4, b5⟩ := rdSigned_cut hr m3
              exact ⟨by rw [if_pos hT]; exact c4, l4, ⟨b4, b5⟩, fun hf => absurd hT hf⟩
            · rename_i hT
              cases hr
              exact ⟨by rw [if_neg hT]; exact cut_self _ _, by omega, by omega, fun _ => rfl⟩
          rcases h4 : (if (k.toNat : Int) = 6 then rdSigned xs p3 else .ok 0 p3 : Rd Int) with ⟨n, p4⟩ | ⟨w, a⟩
          · rw [h4] at h
            obtain ⟨c4, l4, b4, z4⟩ := numb _ h4 n p4 rfl
            simp only at h
            have hkk : UInt8.ofNat (((k.toNat : Int)).toNat % 256) = k := by simp
            split at h
            · rename_i hA
              rcases h5 : rdAt xs p4 with ⟨a, p5⟩ | ⟨w, a⟩
              · rw [h5] at h
                obtain ⟨c5, l5⟩ := rdAt_cut h5
                simp only at h
                split at h
                · rename_i hM
                  cases h
                  refine ⟨?_, by omega, ?_, b4⟩
                  · rw [← cut_cat (Nat.le_of_lt l1) (by omega), ← cut_cat l2 (by omega), ← cut_cat l3 (by omega), ← cut_cat l4 l5, c1, c2, c3, c4, c5]
                    unfold putOp
                    simp only [hkk, hA, if_true]
                    simp
                  · refine wrong0 (by simp [hk]) (show ¬ (65536 < key.size ∨ 65536 < t.size) by omega) ?_ (by simp [hM])
                    unfold bad41
                    rintro (⟨q1, q2⟩ | ⟨q1, q2⟩ | ⟨q1, q2⟩)
                    · exact q2 (z3 q1)
                    · exact q2 (z4 q1)
                    · exact absurd (q1.symm.trans hA) (by simp)
                · cases h
              · rw [h5] at h; cases h
            · rename_i hA
              have hA : hasAt (k.toNat : Int) = false := by simpa using hA
              cases h
              refine ⟨?_, by omega, ?_, b4⟩
              · rw [← cut_cat (Nat.le_of_lt l1) (by omega), ← cut_cat l2 (by omega), ← cut_cat l3 l4, c1, c2, c3, c4]
                unfold putOp
                simp only [hkk, hA]
                simp
              · refine wrong0 (by simp [hk]) (show ¬ (65536 < key.size ∨ 65536 < t.size) by omega) ?_ (by simp [hA])
                unfold bad41
                rintro (⟨q1, q2⟩ | ⟨q1, q2⟩ | ⟨q1, q2⟩)
                · exact q2 (z3 q1)
                · exact q2 (z4 q1)
                · exact q2 rfl
          · rw [h4] at h; cases h
        · rw [h3] at h; cases h
      · rw [h2] at h; cases h
  · rw [h1] at h; cases h
theorem rdList_cut {xs : Bytes} (k : Nat) : ∀ (pos p : Nat) (done l : List GOp), rdList xs k pos done = .ok l p → pos ≤ xs.length → done.length + k ≤ 1024 → ∃ new : List GOp, l = done ++ new ∧ new.length = k ∧ cut xs pos p = new.flatMap putOp ∧ pos ≤ p ∧ p ≤ xs.length ∧ checkFrom done new = (0, 0) ∧ ∀ o ∈ new, o.nums := by
  induction k with
  | zero =>
    intro pos p done l h hn hd
    unfold rdList at h
    cases h
    exact ⟨[], by simp, rfl, by simp [cut_self], by omega, hn, rfl, by simp⟩
  | succ k ih =>
    intro pos p done l h hn hd
    unfold rdList at h
    rcases h1 : rdOp xs pos done with ⟨o, p1⟩ | ⟨w, a⟩
    · rw [h1] at h
      obtain ⟨c1, l1, w1, n1⟩ := rdOp_cut h1 hn (by omega)
      obtain ⟨_, m1⟩ := rdOp_ok h1 hn
      obtain ⟨new, e1, e2, e3, e4, e5, e6, e7⟩ := ih p1 p (done ++ [o]) l h m1 (by simp; omega)
      refine ⟨o :: new, by rw [e1]; simp, by simp [e2], ?_, by omega, e5, ?_, ?_⟩
      · rw [← cut_cat l1 e4, c1, e3]
        simp
      · unfold checkFrom
        rw [if_pos w1]
        exact e6
      · intro o' ho'
        rcases List.mem_cons.1 ho' with rfl | h
        · exact n1
        · exact e7 _ h
    · rw [h1] at h; cases h
theorem rdOps_cut {xs : Bytes} {pos p : Nat} {l : List GOp} (h : rdOps xs pos = .ok l p) (hn : pos ≤ xs.length) : cut xs pos p = putOps l ∧ pos ≤ p ∧ p ≤ xs.length ∧ checkOps l = (0, 0) ∧ ∀ o ∈ l, o.nums := by
  unfold rdOps at h
  rcases h1 : rdNum xs pos 1024 with ⟨n, p1⟩ | ⟨w, a⟩
  · rw [h1] at h
    simp only [Rd.bind] at h
    obtain ⟨h2, h3⟩ := rdNum_cut h1
    obtain ⟨h4, h5, h6, _⟩ := rdNum_ok h1 hn
    obtain ⟨new, e1, e2, e3, e4, e5, e6, e7⟩ := rdList_cut n p1 p [] l h h6 (by simpa using h4)
    simp only [List.nil_append] at e1
    subst e1
    refine ⟨?_, by omega, e5, ?_, e7⟩
    · rw [← cut_cat (Nat.le_of_lt h3) e4, h2, e3]
      unfold putOps
      rw [e2]
    · unfold checkOps
      rw [if_neg (by omega)]
      exact e6
  · rw [h1] at h; cases h
def hashOf (b : Bytes) (i : Nat) : Bytes := b.take i ++ List.replicate (32 - i) 0
theorem hashOf_length (b : Bytes) (i : Nat) (hi : i ≤ b.length) (hb : b.length ≤ 32) : (hashOf b i).length = 32 := by
  unfold hashOf; simp; omega
def mkHash (b : Bytes) : GHash := if h : b.length ≤ 32 then ⟨hashOf b b.length, hashOf_length b _ (Nat.le_refl _) h⟩ else GHash.zero
theorem mkHash_nil : mkHash [] = GHash.zero := rfl
theorem mkHash_32 (b : Bytes) (h : b.length = 32) : (mkHash b).l = b := by
  unfold mkHash
  rw [dif_pos (by omega)]
  simp only [hashOf]
  rw [h, Nat.sub_self, List.take_of_length_le (by omega)]
  simp
theorem mkHash_cells (b : Bytes) (h : b.length ≤ 32) : (mkHash b).cells = (hashOf b b.length).map bv := by
  unfold mkHash GHash.cells
  rw [dif_pos h]
theorem hashOf_zero (b : Bytes) : (hashOf b 0).map bv = GHash.zero.cells := rfl
theorem hashOf_succ (b : Bytes) (i : Nat) (hi : i < b.length) (hb : b.length ≤ 32) : ((hashOf b i).map bv).toArray.setIfInBounds i (bv b[i]) = ((hashOf b (i + 1)).map bv).toArray := by
  apply Array.toList_inj.1
  have e : b.take (i + 1) = b.take i ++ [b[i]] := List.take_succ_eq_append_getElem hi
  have e2 : 32 - i = (32 - (i + 1)) + 1 := by omega
  have e3 : (b.take i).length = i := by rw [List.length_take]; omega
  simp only [Array.toList_setIfInBounds, hashOf]
  rw [← List.map_set, e, e2, List.replicate_succ, List.set_append_right i b[i] (by omega), e3, Nat.sub_self, List.set_cons_zero, List.append_assoc]
  rfl
theorem rdHash_raw (xs : Bytes) (m : Nat) : rdHash xs m = (rdRaw xs m 32).bind fun b p => .ok (mkHash b) p := by
  unfold rdHash rdRaw
  by_cases h : m + 32 ≤ xs.length
  · rw [dif_pos h, if_neg (by omega)]
    simp only [Rd.bind]
    congr 1
    have e := mkHash_32 ((xs.drop m).take 32) (by simp; omega)
    cases hh : mkHash ((xs.drop m).take 32) with
    | mk l hl => rw [hh] at e; simp only at e; subst e; rfl
  · rw [dif_neg h, if_pos (by omega)]
    rfl
end Go.Proofs.Ytlpjeckhejbkkaa
