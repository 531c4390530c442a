import Derived.Test.YtlpjeckhejbkkaaBits
import Derived.Test.YtlpjeckhejbkkaaTypes
set_option linter.unusedVariables false
set_option linter.unusedSimpArgs false
set_option maxRecDepth 20000
set_option maxHeartbeats 400000
namespace Go.Proofs.Ytlpjeckhejbkkaa
open Go.RowKit

theorem ret_nums {k1 k2 k3 : IntKind} {a b c a' b' c' : Int} (ha : a = a') (hb : b = b') (hc : c = c') :
    Ending.returned (.tuple #[.int k1 a, .int k2 b, .int k3 c]) = .returned (.tuple #[.int k1 a', .int k2 b', .int k3 c']) := by rw [ha, hb, hc]

set_option maxHeartbeats 800000 in
theorem number_any (g : Nat) (xs : Bytes) (v : Value) (w : World) (hs : RS w 1 g v xs.length (xs.map bv)) :
    Calls Try.prog 86 #[v] w fun e w' => e = .returned (.tuple #[.int .u64 (numAt 0 0 xs).1, .int .i64 (numAt 0 0 xs).2.1, .int .i64 (numAt 0 0 xs).2.2]) ∧ w = w' := by
  obtain ⟨A, cap, rfl, hn, hc⟩ := hs.val
  clear hc
  go_enter Try.func86, Try.ntmps86
  go_wp2
  go_loop [5, 8] (fun x i => ∃ (k acc : Nat), k ≤ 10 ∧ k ≤ xs.length ∧ Hid (acc < 128 ^ k) ∧ i = .int .i64 k ∧ x = .int .u64 acc ∧ Hid (numAt k acc (xs.drop k) = numAt 0 0 xs)) (fun _ i => 10 - (intOf i).toNat)
  case atStart => exact ⟨0, 0, by omega, by omega, Lib.hid (by omega), rfl, rfl, Lib.hid rfl⟩
  case round =>
    obtain ⟨k, acc, hk, hkl, hacc, rfl, rfl, hnum⟩ := hrel
    by_cases h10 : k = 10
    · subst h10
      have HN : Hid (numAt 0 0 xs = (0, 0, 22)) := Lib.hid (hnum.out.symm.trans (numAt_end _ _))
      go_wp2
      go_ret3
      exact ⟨ret_nums (by rw [HN.out]; rfl) (by rw [HN.out]; rfl) (by rw [HN.out]; rfl), rfl⟩
    · by_cases hlen : k < xs.length
      · obtain ⟨off, cap', hv, hn', hc', hg, hcell⟩ := hs.at_ (by omega)
        obtain ⟨c, hcl, hcx0, HC⟩ : ∃ c : Nat, c < 256 ∧ w.cell? ⟨g, off + k, none⟩ = some (.int .u8 (c : Int)) ∧ Hid (xs[k].toNat = c) :=
          ⟨xs[k].toNat, xs[k].toNat_lt, hcell k (bv xs[k]) (by rw [List.getElem?_map, List.getElem?_eq_getElem hlen]; rfl), Lib.hid rfl⟩
        obtain ⟨rfl, rfl⟩ : A = some ⟨g, off, none⟩ ∧ cap = cap' := by injection hv with h1 h2 h3; exact ⟨h1, h3⟩
        clear hcell hv hc' hn' hg
        have HD : Hid (numAt k acc (xs[k] :: xs.drop (k + 1)) = numAt 0 0 xs) := Lib.hid (by rw [← List.drop_eq_getElem_cons hlen]; exact hnum.out)
        by_cases h9 : k = 9 ∧ 1 < c
        · obtain ⟨rfl, h1⟩ := h9
          have HN : Hid (numAt 0 0 xs = (0, 0, 22)) := Lib.hid (HD.out.symm.trans (numAt_over (by rw [HC.out]; exact h1)))
          go_wp2
          go_ret3
          exact ⟨ret_nums (by rw [HN.out]; rfl) (by rw [HN.out]; rfl) (by rw [HN.out]; rfl), rfl⟩
        · have HB : Hid (bits .or .u64 (acc : Int) (IntKind.u64.wrap (IntKind.u64.wrap (bits .and .u8 (c : Int) 127) * 2 ^ (7 * k))) = ((acc + c % 128 * 128 ^ k : Nat) : Int)) :=
            Lib.hid (or_seven k acc c (by omega) hacc.out hcl (by omega))
          by_cases h128 : c < 128
          · by_cases h0 : c = 0 ∧ 0 < k
            · obtain ⟨rfl, h0⟩ := h0
              have HN : Hid (numAt 0 0 xs = (0, 0, 21)) := Lib.hid (HD.out.symm.trans (numAt_long (by omega) HC.out h0))
              go_wp2
              all_goals
                go_ret3
                exact ⟨ret_nums (by rw [HN.out]; rfl) (by rw [HN.out]; rfl) (by rw [HN.out]; rfl), rfl⟩
            · have HN : Hid (numAt 0 0 xs = (acc + c * 128 ^ k, k + 1, 0)) := Lib.hid (HD.out.symm.trans (by
                rw [numAt_done (by omega) (by rw [HC.out]; exact h9) (by rw [HC.out]; exact h128) (by rw [HC.out]; exact h0), HC.out]))
              have HM : Hid (c % 128 = c) := Lib.hid (Nat.mod_eq_of_lt h128)
              by_cases hc0 : c = 0
              · obtain rfl : k = 0 := by omega
                obtain rfl : acc = 0 := by have := hacc.out; omega
                subst hc0
                have hcx1 : w.cell? ⟨g, off, none⟩ = some (.int .u8 0) := hcx0
                clear hcx0
                have hne : ¬ xs = [] := by rintro rfl; simp at hlen
                go_wp2
                all_goals
                  go_ret3
                  exact ⟨ret_nums (by rw [HN.out]; decide) (by rw [HN.out]; rfl) (by rw [HN.out]; rfl), rfl⟩
              by_cases hk9 : k = 9
              · subst hk9
                have HP : Hid ((2 : Int) ^ (7 * 9) = 9223372036854775808) := Lib.hid (by decide)
                go_wp2
                all_goals
                  go_ret3
                  exact ⟨ret_nums (by rw [← HP.out, HB.out, HN.out, HM.out]) (by rw [HN.out]; rfl) (by rw [HN.out]; rfl), rfl⟩
              · go_wp2
                all_goals
                  go_ret3
                  exact ⟨ret_nums (by rw [HB.out, HN.out, HM.out]) (by rw [HN.out]; rfl) (by rw [HN.out]; rfl), rfl⟩
          · have hk9 : ¬ k = 9 := by omega
            have HE : Hid (numAt (k + 1) (acc + c % 128 * 128 ^ k) (xs.drop (k + 1)) = numAt 0 0 xs) := Lib.hid (by
              rw [← HD.out, numAt_next (by omega) (by rw [HC.out]; exact h9) (by rw [HC.out]; exact h128), HC.out])
            have HS : Hid (acc + c % 128 * 128 ^ k < 128 ^ (k + 1)) := Lib.hid (seven_next k acc _ hacc.out (Nat.mod_lt _ (by omega)))
            go_wp2
            go_round
            case rel => exact ⟨k + 1, acc + c % 128 * 128 ^ k, by omega, by omega, HS, by go_num, by rw [HB.out], HE⟩
            case measure => simp [intOf]; omega
      · have HN : Hid (numAt 0 0 xs = (0, 0, 20)) := Lib.hid (hnum.out.symm.trans (by rw [List.drop_eq_nil_of_le (by omega), numAt_nil (by omega)]))
        go_wp2
        go_ret3
        exact ⟨ret_nums (by rw [HN.out]; rfl) (by rw [HN.out]; rfl) (by rw [HN.out]; rfl), rfl⟩
end Go.Proofs.Ytlpjeckhejbkkaa
