import Derived.Test.YtlpjeckhejbkkaaOnceLaw
import Derived.Test.YtlpjeckhejbkkaaPuts
set_option linter.unusedVariables false
set_option linter.unusedSimpArgs false
set_option maxRecDepth 20000
set_option maxHeartbeats 400000
namespace Go.Proofs.Ytlpjeckhejbkkaa
open Go.RowKit

theorem numAt_put (C : Bytes) : ∀ (x i acc : Nat), x * 128 ^ i < 18446744073709551616 → (0 < i → 0 < x) → i ≤ 9 → numAt i acc (putNum x ++ C) = (acc + x * 128 ^ i, i + (putNum x).length, 0) := by
  intro x
  induction x using Nat.strongRecOn with
  | ind x ih =>
    intro i acc hx hi0 hi
    have h9 : i = 9 → x < 2 := by
      rintro rfl
      rw [show (128 : Nat) ^ 9 = 9223372036854775808 from rfl] at hx
      omega
    rw [putNum]
    by_cases h : x < 128
    · rw [if_pos h]
      have hc : (UInt8.ofNat x).toNat = x := by simp; omega
      rw [List.cons_append, List.nil_append, numAt, if_neg (by omega), if_neg (by rw [hc]; rintro ⟨h1, h2⟩; have := h9 h1; omega), if_pos (by rw [hc]; exact h), if_neg (by rw [hc]; rintro ⟨h1, h2⟩; have := hi0 h2; omega), hc]
      simp
    · rw [if_neg h]
      have hc : (UInt8.ofNat (x % 128 + 128)).toNat = x % 128 + 128 := by simp; omega
      have hi8 : i ≠ 9 := fun h1 => by have := h9 h1; omega
      have hp : x / 128 * 128 ^ (i + 1) = x / 128 * 128 * 128 ^ i := by rw [Nat.pow_succ, Nat.mul_comm (128 ^ i) 128, Nat.mul_assoc]
      have hq : x * 128 ^ i = x / 128 * 128 * 128 ^ i + x % 128 * 128 ^ i := by rw [← Nat.add_mul]; congr 1; omega
      rw [List.cons_append, numAt, if_neg (by omega), if_neg (by rintro ⟨h1, h2⟩; exact hi8 h1), if_neg (by rw [hc]; omega), hc]
      rw [ih (x / 128) (by omega) (i + 1) _ (by rw [hp]; omega) (fun _ => by omega) (by omega)]
      rw [hp, hq, show (x % 128 + 128) % 128 = x % 128 by omega, List.length_cons]
      refine Prod.ext ?_ (Prod.ext ?_ rfl)
      · show acc + x % 128 * 128 ^ i + x / 128 * 128 * 128 ^ i = acc + (x / 128 * 128 * 128 ^ i + x % 128 * 128 ^ i)
        omega
      · show i + 1 + (putNum (x / 128)).length = i + ((putNum (x / 128)).length + 1)
        omega
/-- these bytes are read as this -/
def RP {α : Type} (f : Bytes → Nat → Rd α) (v : α) (bs : Bytes) : Prop := ∀ A C : Bytes, f (A ++ bs ++ C) A.length = .ok v (A.length + bs.length)
theorem RP.at_ {α : Type} {f : Bytes → Nat → Rd α} {v : α} {bs : Bytes} (h : RP f v bs) {xs A C : Bytes} (e : xs = A ++ bs ++ C) {p : Nat} (hp : p = A.length) : f xs p = .ok v (p + bs.length) := by
  subst e hp
  exact h A C
theorem rp_num {x most : Nat} (h : x ≤ most) (hx : x < 18446744073709551616) : RP (fun xs p => rdNum xs p most) x (putNum x) := by
  intro A C
  have e : (A ++ putNum x ++ C).drop A.length = putNum x ++ C := by rw [List.append_assoc]; exact List.drop_left
  show rdNum _ _ _ = _
  unfold rdNum
  rw [e, numAt_put C x 0 0 (by simpa using hx) (by omega) (by omega)]
  simp
  omega
theorem rp_raw {bs : Bytes} {n : Nat} (h : bs.length = n) : RP (fun xs p => rdRaw xs p n) bs bs := by
  intro A C
  show rdRaw _ _ _ = _
  unfold rdRaw
  subst h
  have e : (A ++ bs ++ C).drop A.length = bs ++ C := by rw [List.append_assoc]; exact List.drop_left
  rw [if_neg (by simp), e]
  simp
theorem rp_byte (b : UInt8) : RP rdByte b [b] := by
  intro A C
  unfold rdByte
  rw [dif_pos (by simp)]
  simp
theorem rp_hash (h : GHash) : RP rdHash h h.l := by
  intro A C
  cases h with
  | mk l hl =>
    unfold rdHash
    have e : (A ++ l ++ C).drop A.length = l ++ C := by rw [List.append_assoc]; exact List.drop_left
    rw [dif_pos (by simp [hl])]
    simp only [Rd.ok.injEq, GHash.mk.injEq]
    refine ⟨?_, by rw [hl]⟩
    rw [e, ← hl, List.take_left]
theorem rp_text {s : ByteArray} (h : s.size ≤ 65536) : RP rdText s (putText s) := by
  intro A C
  unfold rdText rdBytes putText
  have hs : s.data.toList.length = s.size := Array.length_toList
  rw [(rp_num (most := 65536) h (by omega)).at_ (A := A) (C := s.data.toList ++ C) (by simp only [List.append_assoc]) rfl]
  simp only [Rd.bind]
  rw [(rp_raw hs).at_ (A := A ++ putNum s.size) (C := C) (by simp only [List.append_assoc]) (by rw [List.length_append])]
  show Rd.ok (⟨s.data.toList.toArray⟩ : ByteArray) _ = Rd.ok s _
  rw [Array.toArray_toList, List.length_append, Nat.add_assoc]
theorem zag_zig (n : Int) : zag (zig n) = n := by
  unfold zag zig
  split <;> split <;> omega
theorem rp_signed {n : Int} (h0 : -9223372036854775808 ≤ n) (h1 : n ≤ 9223372036854775807) : RP rdSigned n (putNum (zig n)) := by
  intro A C
  unfold rdSigned
  have hz := zig_lt n h0 h1
  rw [(rp_num (most := 18446744073709551615) (by omega) hz).at_ (A := A) (C := C) rfl rfl]
  simp only [Rd.bind]
  rw [zag_zig]
theorem rp_at {a : GIdent} (h0 : 0 ≤ a.op) (h1 : a.op ≤ 1024) (hz : a.op = 0 → a = GIdent.zero) : RP rdAt a (putAt a) := by
  intro A C
  unfold rdAt putAt
  by_cases h : a.op = 0
  · rw [if_pos h]
    have e := hz h
    subst e
    rw [(rp_num (x := GIdent.zero.op.toNat) (most := 1024) (by decide) (by decide)).at_ (A := A) (C := C) (by simp) rfl]
    simp only [Rd.bind]
    rw [if_pos (by decide)]
    simp
  · rw [if_neg h]
    rw [(rp_num (x := a.op.toNat) (most := 1024) (by omega) (by omega)).at_ (A := A) (C := a.node.l ++ C) (by simp) rfl]
    simp only [Rd.bind]
    rw [if_neg (by omega), (rp_hash a.node).at_ (A := A ++ putNum a.op.toNat) (C := C) (by simp) (by simp)]
    simp only [Rd.ok.injEq]
    refine ⟨?_, by simp [Nat.add_assoc]⟩
    cases a with
    | mk node op => simp only [GIdent.mk.injEq, true_and] at *; omega
theorem atMay_at {done : List GOp} {o : GOp} (hd : done.length ≤ 1024) (h : atMay done o = true) : 0 ≤ o.at_.op ∧ o.at_.op ≤ 1024 ∧ (o.at_.op = 0 → o.at_ = GIdent.zero) := by
  unfold atMay at h
  by_cases hz : o.at_.node = GHash.zero
  · rw [if_pos hz] at h
    by_cases h0 : o.at_.op = 0
    · refine ⟨by omega, by omega, fun _ => ?_⟩
      cases ho : o.at_ with
      | mk node op => rw [ho] at hz h0; simp only at hz h0; subst hz h0; rfl
    · rw [if_neg h0] at h
      by_cases h1 : 1 ≤ o.at_.op ∧ o.at_.op ≤ done.length
      · exact ⟨by omega, by omega, fun h2 => absurd h2 h0⟩
      · rw [if_neg h1] at h
        cases h
  · rw [if_neg hz] at h
    have h1 := of_decide_eq_true h
    exact ⟨by omega, by omega, fun h2 => by omega⟩
theorem wrongOp_ok {done : List GOp} {o : GOp} (h : wrongOp done o = 0) : known o.kind = true ∧ o.key.size ≤ 65536 ∧ o.text.size ≤ 65536 ∧ (hasText o.kind = false → o.text.size = 0) ∧ (o.kind ≠ 6 → o.n = 0) ∧ (hasAt o.kind = false → o.at_ = GIdent.zero) ∧ (hasAt o.kind = true → atMay done o = true) := by
  unfold wrongOp at h
  by_cases h1 : known o.kind = false
  · rw [if_pos h1] at h; cases h
  rw [if_neg h1] at h
  by_cases h2 : 65536 < o.key.size ∨ 65536 < o.text.size
  · rw [if_pos h2] at h; cases h
  rw [if_neg h2] at h
  by_cases h3 : (hasText o.kind = false ∧ o.text.size ≠ 0) ∨ (o.kind ≠ 6 ∧ o.n ≠ 0) ∨ (hasAt o.kind = false ∧ o.at_ ≠ GIdent.zero)
  · rw [if_pos h3] at h; cases h
  rw [if_neg h3] at h
  by_cases h4 : hasAt o.kind = true ∧ atMay done o = false
  · rw [if_pos h4] at h; cases h
  refine ⟨by simpa using h1, by omega, by omega, fun h5 => ?_, fun h5 => ?_, fun h5 => ?_, fun h5 => ?_⟩
  · by_cases h6 : o.text.size = 0
    · exact h6
    · exact absurd (Or.inl ⟨h5, h6⟩) h3
  · by_cases h6 : o.n = 0
    · exact h6
    · exact absurd (Or.inr (Or.inl ⟨h5, h6⟩)) h3
  · by_cases h6 : o.at_ = GIdent.zero
    · exact h6
    · exact absurd (Or.inr (Or.inr ⟨h5, h6⟩)) h3
  · cases h6 : atMay done o with
    | true => rfl
    | false => exact absurd ⟨h5, h6⟩ h4
theorem ba_nil {s : ByteArray} (h : s.size = 0) : s = ⟨#[]⟩ := by
  cases s with
  | mk d =>
    congr 1
    exact Array.eq_empty_of_size_eq_zero h
theorem rp_op {done : List GOp} {o : GOp} (hd : done.length ≤ 1024) (h : wrongOp done o = 0) (hn : o.nums) : RP (fun xs p => rdOp xs p done) o (putOp o) := by
  obtain ⟨h1, h2, h3, h4, h5, h6, h7⟩ := wrongOp_ok h
  have hk : 1 ≤ o.kind ∧ o.kind ≤ 9 := by simpa [known] using h1
  intro A C
  show rdOp _ _ _ = _
  obtain ⟨kb, hkb⟩ : ∃ kb, UInt8.ofNat (o.kind.toNat % 256) = kb := ⟨_, rfl⟩
  have hkt : (kb.toNat : Int) = o.kind := by rw [← hkb]; simp; omega
  unfold rdOp putOp
  rw [hkb]
  obtain ⟨T, hT⟩ : ∃ T, (if hasText o.kind = true then putText o.text else []) = T := ⟨_, rfl⟩
  obtain ⟨N, hN⟩ : ∃ N, (if o.kind = 6 then putNum (zig o.n) else []) = N := ⟨_, rfl⟩
  obtain ⟨P, hP⟩ : ∃ P, (if hasAt o.kind = true then putAt o.at_ else []) = P := ⟨_, rfl⟩
  rw [hT, hN, hP]
  rw [(rp_byte kb).at_ (A := A) (C := putText o.key ++ (T ++ (N ++ P)) ++ C) (by simp) rfl]
  simp only [Rd.bind]
  rw [hkt, if_neg (by rw [h1]; simp)]
  rw [(rp_text h2).at_ (A := A ++ [kb]) (C := T ++ (N ++ P) ++ C) (by simp) (by simp)]
  simp only
  obtain ⟨p2, hp2⟩ : ∃ p2, A.length + [kb].length + (putText o.key).length = p2 := ⟨_, rfl⟩
  rw [hp2]
  have e3 : (if hasText o.kind = true then rdText (A ++ kb :: (putText o.key ++ (T ++ (N ++ P))) ++ C) p2 else .ok ⟨#[]⟩ p2 : Rd ByteArray) = .ok o.text (p2 + T.length) := by
    by_cases ht : hasText o.kind = true
    · rw [if_pos ht] at hT ⊢
      subst hT
      exact (rp_text h3).at_ (A := A ++ [kb] ++ putText o.key) (C := N ++ P ++ C) (by simp) (by rw [← hp2]; simp; omega)
    · rw [if_neg ht] at hT ⊢
      subst hT
      rw [ba_nil (h4 (by simpa using ht))]
      rfl
  rw [e3]
  simp only
  have e4 : (if o.kind = 6 then rdSigned (A ++ kb :: (putText o.key ++ (T ++ (N ++ P))) ++ C) (p2 + T.length) else .ok 0 (p2 + T.length) : Rd Int) = .ok o.n (p2 + T.length + N.length) := by
    by_cases ht : o.kind = 6
    · rw [if_pos ht] at hN ⊢
      subst hN
      exact (rp_signed hn.1 hn.2).at_ (A := A ++ [kb] ++ putText o.key ++ T) (C := P ++ C) (by simp) (by rw [← hp2]; simp; omega)
    · rw [if_neg ht] at hN ⊢
      subst hN
      rw [h5 ht]
      rfl
  rw [e4]
  simp only
  have hl : p2 + T.length + N.length + P.length = A.length + (kb :: (putText o.key ++ (T ++ (N ++ P)))).length := by rw [← hp2]; simp; omega
  by_cases ht : hasAt o.kind = true
  · rw [if_pos ht] at hP ⊢
    subst hP
    obtain ⟨a0, a1, a2⟩ := atMay_at hd (h7 ht)
    rw [(rp_at a0 a1 a2).at_ (A := A ++ [kb] ++ putText o.key ++ T ++ N) (C := C) (by simp) (by rw [← hp2]; simp; omega)]
    simp only
    rw [if_pos (h7 ht), hl]
  · rw [if_neg ht] at hP ⊢
    subst hP
    have ha := h6 (by simpa using ht)
    rw [← hl]
    cases o with
    | mk kind key text n at_ => simp only at ha; subst ha; rfl
theorem rp_list (l : List GOp) : ∀ (done : List GOp), done.length + l.length ≤ 1024 → (∀ j (hj : j < l.length), wrongOp (done ++ l.take j) l[j] = 0) → (∀ o ∈ l, o.nums) → RP (fun xs p => rdList xs l.length p done) (done ++ l) (l.flatMap putOp) := by
  induction l with
  | nil => intro done _ _ _ A C; simp [rdList]
  | cons o l ih =>
    intro done hd hw hn A C
    show rdList _ (l.length + 1) _ _ = _
    unfold rdList
    simp only [List.length_cons] at hd
    have h0 : wrongOp done o = 0 := by
      have h := hw 0 (by simp)
      rw [List.take_zero, List.append_nil] at h
      exact h
    rw [(rp_op (by omega) h0 (hn o (by simp))).at_ (A := A) (C := l.flatMap putOp ++ C) (by simp) rfl]
    simp only [Rd.bind]
    have h1 := ih (done ++ [o]) (by simp; omega) (fun j hj => by
      have h := hw (j + 1) (by simpa using hj)
      rw [List.take_succ_cons] at h
      rw [List.append_assoc]
      exact h) (fun o' ho => hn o' (by simp [ho]))
    rw [h1.at_ (A := A ++ putOp o) (C := C) (by simp) (by simp)]
    simp [Nat.add_assoc]
theorem rp_ops {l : List GOp} (h0 : (checkOps l).1 = 0) (hn : ∀ o ∈ l, o.nums) : RP rdOps l (putOps l) := by
  obtain ⟨hl, hall⟩ := check_all h0
  intro A C
  unfold rdOps putOps
  rw [(rp_num (x := l.length) (most := 1024) hl (by omega)).at_ (A := A) (C := l.flatMap putOp ++ C) (by simp) rfl]
  simp only [Rd.bind]
  rw [(rp_list l [] (by simpa using hl) (fun j hj => by simpa using hall j hj) hn).at_ (A := A ++ putNum l.length) (C := C) (by simp) (by simp)]
  simp [Nat.add_assoc]
end Go.Proofs.Ytlpjeckhejbkkaa
