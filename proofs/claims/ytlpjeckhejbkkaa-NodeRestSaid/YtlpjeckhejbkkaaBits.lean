import Derived.Test.YtlpjeckhejbkkaaSpec
import Derived.Laws.BitsAllLaws
import Derived.Laws.BitsLemmas
set_option linter.unusedVariables false
set_option linter.unusedSimpArgs false
set_option maxRecDepth 20000
set_option maxHeartbeats 400000
namespace Go.Proofs.Ytlpjeckhejbkkaa
open Go.RowKit

theorem wrap_u64_nat (a : Nat) (h : a < 18446744073709551616) : IntKind.u64.wrap (a : Int) = (a : Int) := by
  simp [IntKind.wrap, IntKind.bits, IntKind.signed]
  omega
theorem wrap_u8_nat (a : Nat) : IntKind.u8.wrap (a : Int) = ((a % 256 : Nat) : Int) := by
  simp [IntKind.wrap, IntKind.bits, IntKind.signed]
theorem and_u8_127 (c : Nat) (h : c < 256) : bits .and .u8 (c : Int) 127 = ((c % 128 : Nat) : Int) := by
  have H : ∀ c : Nat, c < 256 → bits .and .u8 (c : Int) 127 = ((c % 128 : Nat) : Int) := by decide +kernel
  exact H c h
theorem or_u8_128 (c : Nat) (h : c < 256) : bits .or .u8 (c : Int) 128 = ((c % 128 + 128 : Nat) : Int) := by
  have H : ∀ c : Nat, c < 256 → bits .or .u8 (c : Int) 128 = ((c % 128 + 128 : Nat) : Int) := by decide +kernel
  exact H c h
theorem ofInt_u64 (a : Nat) (ha : a < 18446744073709551616) : (BitVec.ofInt 64 (a : Int)).toNat = a := by
  rw [BitVec.ofInt_natCast, BitVec.toNat_ofNat]; exact Nat.mod_eq_of_lt (by omega)
theorem or_u64_nat (a b : Nat) (ha : a < 18446744073709551616) (hb : b < 18446744073709551616) : bits .or .u64 (a : Int) (b : Int) = ((a ||| b : Nat) : Int) := by
  have hx : a ||| b < 2 ^ 64 := Nat.or_lt_two_pow (by omega) (by omega)
  show IntKind.u64.wrap ((BitVec.ofInt 64 (a : Int) ||| BitVec.ofInt 64 (b : Int)).toNat : Int) = _
  rw [BitVec.toNat_or, ofInt_u64 a ha, ofInt_u64 b hb, wrap_u64_nat _ (by omega)]
theorem xor_u64_nat (a b : Nat) (ha : a < 18446744073709551616) (hb : b < 18446744073709551616) : bits .xor .u64 (a : Int) (b : Int) = ((a ^^^ b : Nat) : Int) := by
  have hx : a ^^^ b < 2 ^ 64 := Nat.xor_lt_two_pow (by omega) (by omega)
  show IntKind.u64.wrap ((BitVec.ofInt 64 (a : Int) ^^^ BitVec.ofInt 64 (b : Int)).toNat : Int) = _
  rw [BitVec.toNat_xor, ofInt_u64 a ha, ofInt_u64 b hb, wrap_u64_nat _ (by omega)]
theorem pow128 (k : Nat) : 2 ^ (7 * k) = 128 ^ k := by rw [Nat.pow_mul]
theorem seven_lt (k d : Nat) (hk : k ≤ 9) (hd : d < 128) (h9 : k = 9 → d ≤ 1) : d * 128 ^ k < 18446744073709551616 := by
  match k, hk with
  | 0, _ | 1, _ | 2, _ | 3, _ | 4, _ | 5, _ | 6, _ | 7, _ | 8, _ => simp; omega
  | 9, _ => have := h9 rfl; simp; omega
theorem seven_next (k acc d : Nat) (ha : acc < 128 ^ k) (hd : d < 128) : acc + d * 128 ^ k < 128 ^ (k + 1) := by
  rw [Nat.pow_succ]
  have h : (d + 1) * 128 ^ k ≤ 128 * 128 ^ k := Nat.mul_le_mul_right _ (by omega)
  rw [Nat.add_mul, Nat.one_mul] at h
  rw [Nat.mul_comm (128 ^ k) 128]
  omega
/-- a number's next seven bits, as Go lays them beside those that it has -/
theorem or_seven (k acc c : Nat) (hk : k ≤ 9) (ha : acc < 128 ^ k) (hc : c < 256) (h9 : k = 9 → c ≤ 1) :
    bits .or .u64 (acc : Int) (IntKind.u64.wrap (IntKind.u64.wrap (bits .and .u8 (c : Int) 127) * 2 ^ (7 * k))) = ((acc + c % 128 * 128 ^ k : Nat) : Int) := by
  have hd : c % 128 < 128 := Nat.mod_lt _ (by omega)
  have hlt := seven_lt k (c % 128) hk hd (fun h => by have := h9 h; omega)
  have hacc : acc < 18446744073709551616 := by
    have h := seven_lt k 1 hk (by omega) (fun _ => by omega)
    omega
  rw [and_u8_127 c hc, wrap_u64_nat (c % 128) (by omega)]
  have e : ((c % 128 : Nat) : Int) * 2 ^ (7 * k) = ((c % 128 * 128 ^ k : Nat) : Int) := by
    rw [← pow128 k]; simp
  rw [e, wrap_u64_nat _ hlt, or_u64_nat _ _ hacc hlt]
  have h := Nat.two_pow_add_eq_or_of_lt (i := 7 * k) (b := acc) (by rw [pow128]; exact ha) (c % 128)
  rw [pow128] at h
  rw [Nat.or_comm, Nat.mul_comm, ← h]
  congr 1
  omega

theorem and_u64_1 (x : Nat) (h : x < 18446744073709551616) : bits .and .u64 (x : Int) 1 = ((x % 2 : Nat) : Int) := by
  show IntKind.u64.wrap ((BitVec.ofInt 64 (x : Int) &&& BitVec.ofInt 64 1).toNat : Int) = _
  rw [BitVec.toNat_and, ofInt_u64 x h]
  have e : (BitVec.ofInt 64 1).toNat = 2 ^ 1 - 1 := by decide
  rw [e, Nat.and_two_pow_sub_one_eq_mod, wrap_u64_nat _ (by omega)]
theorem wrap64_small (n : Int) (h1 : -9223372036854775808 ≤ n) (h2 : n ≤ 9223372036854775807) : wrap64 n = n := by unfold wrap64; omega
theorem xor_i64_zero (h : Nat) (hh : h < 9223372036854775808) : bits .xor .i64 (h : Int) 0 = (h : Int) := by
  show IntKind.i64.wrap ((BitVec.ofInt 64 (h : Int) ^^^ BitVec.ofInt 64 0).toNat : Int) = _
  rw [BitVec.toNat_xor, ofInt_u64 h (by omega)]
  have e : (BitVec.ofInt 64 0).toNat = 0 := by decide
  rw [e, Nat.xor_zero]
  simp [IntKind.wrap, IntKind.bits, IntKind.signed]
  omega
theorem xor_i64_neg (h : Nat) (hh : h < 9223372036854775808) : bits .xor .i64 (h : Int) (-1) = -(h : Int) - 1 := by
  show IntKind.i64.wrap ((BitVec.ofInt 64 (h : Int) ^^^ BitVec.ofInt 64 (-1)).toNat : Int) = _
  have e : BitVec.ofInt 64 (-1) = BitVec.allOnes 64 := by decide
  rw [e, BitVec.xor_allOnes, BitVec.toNat_not, ofInt_u64 h (by omega)]
  simp [IntKind.wrap, IntKind.bits, IntKind.signed]
  omega
/-- a signed number out of a number, as Go makes it -/
theorem zag_bits (x : Nat) (hx : x < 18446744073709551616) : bits .xor .i64 ((x : Int) / 2) (wrap64 (-(wrap64 (bits .and .u64 (x : Int) 1)))) = zag x := by
  rw [and_u64_1 x hx]
  have hh : x / 2 < 9223372036854775808 := by omega
  have e1 : (x : Int) / 2 = ((x / 2 : Nat) : Int) := by omega
  rw [e1, wrap64_small ((x % 2 : Nat) : Int) (by omega) (by omega)]
  unfold zag
  by_cases h : x % 2 = 0
  · rw [if_pos h, h, wrap64_small (-((0 : Nat) : Int)) (by omega) (by omega)]
    exact xor_i64_zero _ hh
  · have h1 : x % 2 = 1 := by omega
    rw [if_neg h, h1, wrap64_small (-((1 : Nat) : Int)) (by omega) (by omega)]
    exact xor_i64_neg _ hh

theorem wrap_u64_int (x : Int) : IntKind.u64.wrap x = x % 18446744073709551616 := by
  simp [IntKind.wrap, IntKind.bits, IntKind.signed]
/-- a number out of a signed one, as Go makes it -/
theorem zig_bits (x : Int) (h0 : -9223372036854775808 ≤ x) (h1 : x ≤ 9223372036854775807) :
    bits .xor .u64 (IntKind.u64.wrap (IntKind.u64.wrap x * 2)) (IntKind.u64.wrap (x / 9223372036854775808)) = ((zig x : Nat) : Int) ∧ zig x < 18446744073709551616 := by
  simp only [wrap_u64_int]
  unfold zig
  by_cases h : 0 ≤ x
  · have e1 : x % 18446744073709551616 * 2 % 18446744073709551616 = ((2 * x.toNat : Nat) : Int) := by omega
    have e2 : x / 9223372036854775808 % 18446744073709551616 = ((0 : Nat) : Int) := by omega
    rw [e1, e2, if_pos h, xor_u64_nat _ _ (by omega) (by omega), Nat.xor_zero]
    exact ⟨rfl, by omega⟩
  · have e1 : x % 18446744073709551616 * 2 % 18446744073709551616 = ((18446744073709551616 - 2 * (-x).toNat : Nat) : Int) := by omega
    have e2 : x / 9223372036854775808 % 18446744073709551616 = ((18446744073709551615 : Nat) : Int) := by omega
    rw [e1, e2, if_neg h, xor_u64_nat _ _ (by omega) (by omega)]
    have e3 : ∀ a : Nat, a < 18446744073709551616 → a ^^^ 18446744073709551615 = 18446744073709551615 - a := by
      intro a ha
      have h2 := BitVec.toNat_not (x := BitVec.ofNat 64 a)
      rw [← BitVec.xor_allOnes, BitVec.toNat_xor, BitVec.toNat_ofNat, BitVec.toNat_allOnes, Nat.mod_eq_of_lt ha] at h2
      simpa using h2
    rw [e3 _ (by omega)]
    constructor <;> omega

/-! ### steps of numAt -/
theorem numAt_end (acc : Nat) (l : Bytes) : numAt 10 acc l = (0, 0, 22) := by cases l <;> simp [numAt]
theorem numAt_nil {k acc : Nat} (hk : k < 10) : numAt k acc [] = (0, 0, 20) := by rw [numAt, if_neg (by omega)]
theorem numAt_over {acc : Nat} {c : UInt8} {r : Bytes} (h : 1 < c.toNat) : numAt 9 acc (c :: r) = (0, 0, 22) := by rw [numAt, if_neg (by omega), if_pos ⟨rfl, h⟩]
theorem numAt_long {k acc : Nat} {c : UInt8} {r : Bytes} (hk : k < 10) (h : c.toNat = 0) (h0 : 0 < k) : numAt k acc (c :: r) = (0, 0, 21) := by
  rw [numAt, if_neg (by omega), if_neg (by omega), if_pos (by omega), if_pos ⟨h, h0⟩]
theorem numAt_done {k acc : Nat} {c : UInt8} {r : Bytes} (hk : k < 10) (h9 : ¬ (k = 9 ∧ 1 < c.toNat)) (h : c.toNat < 128) (h0 : ¬ (c.toNat = 0 ∧ 0 < k)) : numAt k acc (c :: r) = (acc + c.toNat * 128 ^ k, k + 1, 0) := by
  rw [numAt, if_neg (by omega), if_neg h9, if_pos h, if_neg h0]
theorem numAt_next {k acc : Nat} {c : UInt8} {r : Bytes} (hk : k < 10) (h9 : ¬ (k = 9 ∧ 1 < c.toNat)) (h : ¬ c.toNat < 128) : numAt k acc (c :: r) = numAt (k + 1) (acc + c.toNat % 128 * 128 ^ k) r := by
  rw [numAt, if_neg (by omega), if_neg h9, if_neg h]
/-- what a number's reading can come to -/
theorem numAt_bounds (l : Bytes) : ∀ (k acc : Nat), k ≤ 10 → acc < 128 ^ k →
    ((numAt k acc l).2.2 = 0 ∧ (numAt k acc l).1 < 18446744073709551616 ∧ k < (numAt k acc l).2.1 ∧ (numAt k acc l).2.1 ≤ k + l.length ∧ (numAt k acc l).2.1 ≤ 10) ∨
    ((numAt k acc l).2.2 = 20 ∨ (numAt k acc l).2.2 = 21 ∨ (numAt k acc l).2.2 = 22) ∧ (numAt k acc l).1 = 0 ∧ (numAt k acc l).2.1 = 0 := by
  induction l with
  | nil =>
    intro k acc hk ha
    by_cases h10 : k = 10
    · subst h10; rw [numAt_end]; simp
    · rw [numAt_nil (by omega)]; simp
  | cons c r ih =>
    intro k acc hk ha
    by_cases h10 : k = 10
    · subst h10; rw [numAt_end]; simp
    by_cases h9 : k = 9 ∧ 1 < c.toNat
    · obtain ⟨rfl, h9⟩ := h9; rw [numAt_over h9]; simp
    by_cases h : c.toNat < 128
    · by_cases h0 : c.toNat = 0 ∧ 0 < k
      · rw [numAt_long (by omega) h0.1 h0.2]; simp
      · rw [numAt_done (by omega) h9 h h0]
        left
        have hb := seven_next k acc c.toNat ha h
        have hl := seven_lt k c.toNat (by omega) h (fun e => by omega)
        refine ⟨rfl, ?_, Nat.lt_succ_self _, by simp, by simp; omega⟩
        show acc + c.toNat * 128 ^ k < _
        by_cases e : k = 9
        · subst e
          have : c.toNat ≤ 1 := by omega
          have h2 : c.toNat * 128 ^ 9 ≤ 1 * 128 ^ 9 := Nat.mul_le_mul_right _ this
          omega
        · have hp : 128 ^ (k + 1) ≤ 128 ^ 9 := Nat.pow_le_pow_right (by omega) (by omega)
          omega
    · rw [numAt_next (by omega) h9 h]
      have hd : c.toNat % 128 < 128 := Nat.mod_lt _ (by omega)
      rcases ih (k + 1) _ (by omega) (seven_next k acc _ ha hd) with ⟨a1, a2, a3, a4, a5⟩ | hr
      · left
        refine ⟨a1, a2, by omega, by simp only [List.length_cons]; omega, a5⟩
      · exact .inr hr
end Go.Proofs.Ytlpjeckhejbkkaa
