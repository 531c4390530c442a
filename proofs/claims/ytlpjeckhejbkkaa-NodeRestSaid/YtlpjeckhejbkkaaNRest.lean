import Derived.Test.YtlpjeckhejbkkaaNApp
set_option linter.unusedVariables false
set_option linter.unusedSimpArgs false
set_option maxRecDepth 20000
set_option maxHeartbeats 1600000
namespace Go.Proofs.Ytlpjeckhejbkkaa
open Go.RowKit

theorem encOf_zero {n : GNode} (h : (encOf n).2 = 0) : checkNode n = 0 ∧ (nodeBlock n).length ≤ 1048576 ∧ encOf n = (nodeBlock n, 0) := by
  unfold encOf at h ⊢
  by_cases h0 : checkNode n = 0
  · rw [if_pos h0] at h ⊢
    by_cases h1 : 1048576 < (nodeBlock n).length
    · rw [if_pos h1] at h; cases h
    · rw [if_neg h1]
      exact ⟨h0, by omega, rfl⟩
  · rw [if_neg h0] at h
    exact absurd h h0
theorem nodeSame_nil (w : World) : Calls Try.prog 13 #[nodeV 0 0 (.slice none 0 0) (.slice none 0 0), nodeV 0 0 (.slice none 0 0) (.slice none 0 0)] w fun e w' => e = .returned (.bool true) ∧ Mod [] w w' := by
  have h := refNodeSame_any ⟨0, 0, [], []⟩ ⟨0, 0, [], []⟩ 0 0 0 0 _ _ _ _ w (nodR_nil w 0 0) (nodR_nil w 0 0)
  rw [nodeEq_true rfl rfl rfl rfl] at h
  exact h
theorem nodeRest_any (n : GNode) (gp go : Nat) (pv ov : Value) (more : Bytes) (gm : Nat) (vm : Value) (cut : Int) (w : World) (hN : NodR w n gp go pv ov) (hn : ∀ o ∈ n.ops, o.nums) (hM : BS w gm vm more) (hz : more.length ≤ 140737488355328) :
    Calls Try.prog 4 #[nodeV n.author n.clock pv ov, vm, .int .i64 cut] w fun e w' => e = .returned (.bool true) ∧ Mod [] w w' := by
  obtain ⟨mA, mc, rfl, hmc1, hmc2⟩ := hM.val
  unfold maxLen at hmc2
  have HN := Lib.hid hN; clear hN
  have HM := Lib.hid hM; clear hM
  have HEN : Hid (∀ W, Mod [] w W → Calls Try.prog 10 #[nodeV n.author n.clock pv ov] W (EncP W (encOf n))) := Lib.hid (fun W hW => encode_any n gp go pv ov W (HN.out.mod0 hW) hn)
  have HE0 := Lib.hid (@encOf_zero n)
  have hlaw1 := fun (h : checkNode n = 0) (C : Bytes) (hC : 0 < C.length) (hz : (nodeBlock n).length + C.length ≤ 1048576) => node_more h hn hC hz
  have hlaw2 := fun (h : checkNode n = 0) (hz : (nodeBlock n).length ≤ 1048576) (k : Nat) (hk : k < (nodeBlock n).length) => node_short h hn hz hk
  have HL1 := Lib.hid hlaw1; clear hlaw1
  have HL2 := Lib.hid hlaw2; clear hlaw2
  clear hn
  generalize encOf n = r at *
  generalize checkNode n = ck at *
  generalize nodeBlock n = B at *
  generalize n.author = au at *
  generalize n.clock = cl at *
  go_enter Try.func4, Try.ntmps4
  go_wp2_with (first | ((with_reducible refine wpList_box_node _ rfl ?hgd (au := au) (cl := cl) (pv := pv) (ov := ov) ?hx ?_); (case hgd => exact rfl); (case hx => exact rfl); intro q1 w1 hv1 hm1 hq1 hl1; have HV1 := Lib.hid hv1; have HM1 := Lib.hid hm1; clear hv1 hm1))
  refine (awake_any _).mono ?_
  rintro e' w2 ⟨rfl, hm2⟩
  have HM2 := Lib.hid (HM1.out.trans hm2)
  obtain ⟨_, _, _, _, HC⟩ := (HV1.out.mod hm2 (by simp)).open_
  clear hm2 HM1 HV1
  go_wp2_with (first | ((with_reducible refine wpList_load_node _ rfl ?hgd HC.out ?hx ?_); (case hgd => exact rfl); (case hx => exact rfl)))
  refine (HEN.out w2 HM2.out).mono ?_
  rintro e' w3 ⟨v3, rfl, hown3, hm3, hf3⟩
  have HM3 := Lib.hid (HM2.out.trans hm3)
  by_cases h0 : r.2 = 0
  · obtain ⟨hck, hlen, hr⟩ := HE0.out h0
    rw [hr] at hown3 ⊢
    obtain ⟨g3, hb3, _⟩ := hown3.bs
    obtain ⟨A3, c3, rfl, hc31, hc32⟩ := hb3.val
    unfold maxLen at hc32
    have hc33 : B.length ≤ c3 := hc31
    have HB3 : Hid (BS w3 g3 (.slice A3 B.length c3) B) := Lib.hid hb3
    have HLA := Lib.hid (HL1.out hck more)
    have HLB := Lib.hid (HL2.out hck hlen)
    clear hown3 hm3 hf3 hb3 HM2 HE0 hck hr h0 HL1 HL2 HEN HC
    have hl0 : 0 < B.length → True := fun _ => trivial
    by_cases hcut : 0 ≤ cut ∧ cut < B.length
    · obtain ⟨k, hk⟩ : ∃ k : Nat, cut = (k : Int) := ⟨cut.toNat, by omega⟩
      subst hk
      have hkl : k < B.length := by omega
      have hki : (k : Int) < (B.length : Int) := by omega
      have hkc : (k : Int) ≤ (c3 : Int) := by omega
      by_cases hmore : 0 < more.length ∧ B.length + more.length ≤ 1048576
      · obtain ⟨hm0, hm1⟩ := hmore
        have hm0i : (0 : Int) < more.length := by omega
        have hm1i : ((B.length : Int) + more.length) ≤ 1048576 := by omega
        have HBX : Hid (BS w3 g3 (.slice A3 B.length B.length) B) := Lib.hid (by
          obtain ⟨hl, A, cap, hv, hn, hc, hf⟩ := HB3.out
          injection hv with hA _ _
          subst hA
          exact ⟨hl, A3, B.length, rfl, Nat.le_refl _, by unfold maxLen; omega, hf⟩)
        have HMX : Hid (BS w3 gm (.slice mA more.length mc) more) := Lib.hid (HM.out.mod HM3.out (by simp))
        go_wp2_with (at_builtin; refine wpList_append_full_bytes rfl _ _ rfl HBX.out rfl HMX.out rfl hm0 ?_ ?hz; intro A4 n4 c4 w4 hown4 hn4 hm4 HF4; obtain ⟨g4, hb4, _⟩ := hown4.bs; have HD4 := Lib.hid (decode_any (B ++ more) g4 _ w4 hb4); have HM4 := Lib.hid hm4; clear hown4 hm4 HF4 hb4 hn4)
        case hz => omega
        rw [HLA.out hm0 hm1] at HD4
        clear HBX HMX
        refine HD4.out.mono ?_
        clear HD4
        rintro e' w5 ⟨b, rfl, hbad, hm5, _⟩
        have HBD5 := Lib.hid hbad
        have HM5 := Lib.hid hm5
        clear hbad hm5
        go_wp2_with ((with_reducible refine wpList_store_node (au := 0) (cl := 0) (pv := .slice none 0 0) (ov := .slice none 0 0) _ _ rfl ?hgd ?hx ?hy (Blk.new _ _ _) ?hold ?hp ?hv ?_); (case hgd => exact rfl); (case hx => exact rfl); (case hy => exact rfl); (case hold => exact rfl); (case hp => exact rfl); (case hv => exact rfl); intro w6 hb6 hm6; have hmx : Mod [] w5 w6 := ((Mod.refl [] w5).alloc _).then hm6 (by simp); have HN6 := Lib.hid hb6; have HBD6 := Lib.hid (Blk.mod HBD5.out hmx (by simp)); have HM6 := Lib.hid (HM5.out.trans hmx); clear hb6 hm6 hmx)
        have HTO := Lib.hid (told_bad w6 b 23 B.length HBD6.out (by decide))
        refine HTO.out.mono ?_
        rintro e' w7 ⟨rfl, hm7⟩
        have HM7 := Lib.hid (HM6.out.trans hm7)
        have HN7 := Lib.hid (HN6.out.mod hm7 (by simp))
        obtain ⟨q9, hq9⟩ : ∃ q9, w5.heap.size = q9 := ⟨_, rfl⟩
        rw [hq9] at HN7
        rw [hq9]
        clear hm7 HBD5 HM5 HN6 HBD6 HM6 HTO hq9
        unfold errV
        go_upto_region 9 with fail
        have hm8 : Mod [] w7 (w7.alloc (.cells #[.int .i64 23, .int .i64 ((B.length : Nat) : Int)] 36)) := (Mod.refl [] w7).alloc _
        have HE8 := Lib.hid (Blk.new w7 36 #[.int .i64 23, .int .i64 ((B.length : Nat) : Int)])
        have HN8 := Lib.hid (HN7.out.mod hm8 (by simp))
        have HM8 := Lib.hid (HM7.out.trans hm8)
        obtain ⟨w8, hw8⟩ : ∃ w8, w7.alloc (.cells #[.int .i64 23, .int .i64 ((B.length : Nat) : Int)] 36) = w8 := ⟨_, rfl⟩
        obtain ⟨z, hz8⟩ : ∃ z, w7.heap.size = z := ⟨_, rfl⟩
        rw [hw8] at HE8 HN8 HM8
        rw [hz8] at HE8
        rw [hw8, hz8]
        clear hw8 hz8 hm8 HN7 HM7
        have e0 := HE8.out.cell 0
        have e1 := HE8.out.cell 1
        obtain ⟨_, _, _, _, HC8⟩ := HN8.out.open_
        go_wp2_with (first | ((with_reducible refine wpList_load_node _ rfl ?hgd HC8.out ?hx ?_); (case hgd => exact rfl); (case hx => exact rfl)))
        refine (nodeSame_nil _).mono ?_
        rintro e' w9 ⟨rfl, hm9⟩
        have HMW : Hid (Mod [] w w9) := Lib.hid ((HM3.out.trans HM4.out).trans (HM8.out.trans hm9))
        have HBW : Hid (BS w9 g3 (.slice A3 B.length c3) B) := Lib.hid (HB3.out.mod (HM4.out.trans (HM8.out.trans hm9)) (by simp))
        clear hm9 e0 e1 HC8 HE8 HN8 HM8 HM4 HB3 HM3 hm0 hm1 hm0i hm1i
        obtain ⟨a, hak, hda⟩ := HLB.out k hkl
        have HD := Lib.hid (decode_any (B.take k) g3 (.slice A3 k c3) _ (by have h := BS.take HBW.out (n := k) (by omega); exact h))
        rw [hda] at HD
        clear hda
        go_wp2_with fail
        refine HD.out.mono ?_
        clear HD
        have haki : (a : Int) ≤ (k : Int) := by omega
        rintro e' w5 ⟨b, rfl, hbad, hm5, _⟩
        have HBD5 := Lib.hid hbad
        have HM5 := Lib.hid hm5
        clear hbad hm5
        go_wp2_with ((with_reducible refine wpList_store_node (au := 0) (cl := 0) (pv := .slice none 0 0) (ov := .slice none 0 0) _ _ rfl ?hgd ?hx ?hy (Blk.new _ _ _) ?hold ?hp ?hv ?_); (case hgd => exact rfl); (case hx => exact rfl); (case hy => exact rfl); (case hold => exact rfl); (case hp => exact rfl); (case hv => exact rfl); intro w6 hb6 hm6; have hmx : Mod [] w5 w6 := ((Mod.refl [] w5).alloc _).then hm6 (by simp); have HN6 := Lib.hid hb6; have HBD6 := Lib.hid (Blk.mod HBD5.out hmx (by simp)); have HM6 := Lib.hid (HM5.out.trans hmx); clear hb6 hm6 hmx)
        have HTO := Lib.hid (told_bad w6 b 20 a HBD6.out (by decide))
        refine HTO.out.mono ?_
        rintro e' w7 ⟨rfl, hm7⟩
        have HM7 := Lib.hid (HM6.out.trans hm7)
        have HN7 := Lib.hid (HN6.out.mod hm7 (by simp))
        obtain ⟨q9, hq9⟩ : ∃ q9, w5.heap.size = q9 := ⟨_, rfl⟩
        rw [hq9] at HN7
        rw [hq9]
        clear hm7 HBD5 HM5 HN6 HBD6 HM6 HTO hq9
        unfold errV
        go_upto_region 15 with fail
        have hm8 : Mod [] w7 (w7.alloc (.cells #[.int .i64 20, .int .i64 ((a : Nat) : Int)] 36)) := (Mod.refl [] w7).alloc _
        have HE8 := Lib.hid (Blk.new w7 36 #[.int .i64 20, .int .i64 ((a : Nat) : Int)])
        have HN8 := Lib.hid (HN7.out.mod hm8 (by simp))
        have HM8 := Lib.hid (HM7.out.trans hm8)
        obtain ⟨w8, hw8⟩ : ∃ w8, w7.alloc (.cells #[.int .i64 20, .int .i64 ((a : Nat) : Int)] 36) = w8 := ⟨_, rfl⟩
        obtain ⟨z, hz8⟩ : ∃ z, w7.heap.size = z := ⟨_, rfl⟩
        rw [hw8] at HE8 HN8 HM8
        rw [hz8] at HE8
        rw [hw8, hz8]
        clear hw8 hz8 hm8 HN7 HM7
        have e0 := HE8.out.cell 0
        have e1 := HE8.out.cell 1
        obtain ⟨_, _, _, _, HC8⟩ := HN8.out.open_
        go_wp2_with (first | ((with_reducible refine wpList_load_node _ rfl ?hgd HC8.out ?hx ?_); (case hgd => exact rfl); (case hx => exact rfl)))
        refine (nodeSame_nil _).mono ?_
        rintro e' w9 ⟨rfl, hm9⟩
        go_wp2_with fail
        go_ret
        exact ⟨rfl, HMW.out.trans (HM8.out.trans hm9)⟩
      · have HMW := HM3
        have HBW : Hid (BS w3 g3 (.slice A3 B.length c3) B) := HB3
        clear HM3 HB3
        by_cases hm0 : (0 : Int) < more.length
        · have hm1 : ¬ ((B.length : Int) + more.length ≤ 1048576) := by omega
          obtain ⟨a, hak, hda⟩ := HLB.out k hkl
          have HD := Lib.hid (decode_any (B.take k) g3 (.slice A3 k c3) _ (by have h := BS.take HBW.out (n := k) (by omega); exact h))
          rw [hda] at HD
          clear hda
          go_wp2_with fail
          refine HD.out.mono ?_
          clear HD
          have haki : (a : Int) ≤ (k : Int) := by omega
          rintro e' w5 ⟨b, rfl, hbad, hm5, _⟩
          have HBD5 := Lib.hid hbad
          have HM5 := Lib.hid hm5
          clear hbad hm5
          go_wp2_with ((with_reducible refine wpList_store_node (au := 0) (cl := 0) (pv := .slice none 0 0) (ov := .slice none 0 0) _ _ rfl ?hgd ?hx ?hy (Blk.new _ _ _) ?hold ?hp ?hv ?_); (case hgd => exact rfl); (case hx => exact rfl); (case hy => exact rfl); (case hold => exact rfl); (case hp => exact rfl); (case hv => exact rfl); intro w6 hb6 hm6; have hmx : Mod [] w5 w6 := ((Mod.refl [] w5).alloc _).then hm6 (by simp); have HN6 := Lib.hid hb6; have HBD6 := Lib.hid (Blk.mod HBD5.out hmx (by simp)); have HM6 := Lib.hid (HM5.out.trans hmx); clear hb6 hm6 hmx)
          have HTO := Lib.hid (told_bad w6 b 20 a HBD6.out (by decide))
          refine HTO.out.mono ?_
          rintro e' w7 ⟨rfl, hm7⟩
          have HM7 := Lib.hid (HM6.out.trans hm7)
          have HN7 := Lib.hid (HN6.out.mod hm7 (by simp))
          obtain ⟨q9, hq9⟩ : ∃ q9, w5.heap.size = q9 := ⟨_, rfl⟩
          rw [hq9] at HN7
          rw [hq9]
          clear hm7 HBD5 HM5 HN6 HBD6 HM6 HTO hq9
          unfold errV
          go_upto_region 15 with fail
          have hm8 : Mod [] w7 (w7.alloc (.cells #[.int .i64 20, .int .i64 ((a : Nat) : Int)] 36)) := (Mod.refl [] w7).alloc _
          have HE8 := Lib.hid (Blk.new w7 36 #[.int .i64 20, .int .i64 ((a : Nat) : Int)])
          have HN8 := Lib.hid (HN7.out.mod hm8 (by simp))
          have HM8 := Lib.hid (HM7.out.trans hm8)
          obtain ⟨w8, hw8⟩ : ∃ w8, w7.alloc (.cells #[.int .i64 20, .int .i64 ((a : Nat) : Int)] 36) = w8 := ⟨_, rfl⟩
          obtain ⟨z, hz8⟩ : ∃ z, w7.heap.size = z := ⟨_, rfl⟩
          rw [hw8] at HE8 HN8 HM8
          rw [hz8] at HE8
          rw [hw8, hz8]
          clear hw8 hz8 hm8 HN7 HM7
          have e0 := HE8.out.cell 0
          have e1 := HE8.out.cell 1
          obtain ⟨_, _, _, _, HC8⟩ := HN8.out.open_
          go_wp2_with (first | ((with_reducible refine wpList_load_node _ rfl ?hgd HC8.out ?hx ?_); (case hgd => exact rfl); (case hx => exact rfl)))
          refine (nodeSame_nil _).mono ?_
          rintro e' w9 ⟨rfl, hm9⟩
          go_wp2_with fail
          go_ret
          exact ⟨rfl, HMW.out.trans (HM8.out.trans hm9)⟩
        · obtain ⟨a, hak, hda⟩ := HLB.out k hkl
          have HD := Lib.hid (decode_any (B.take k) g3 (.slice A3 k c3) _ (by have h := BS.take HBW.out (n := k) (by omega); exact h))
          rw [hda] at HD
          clear hda
          go_wp2_with fail
          refine HD.out.mono ?_
          clear HD
          have haki : (a : Int) ≤ (k : Int) := by omega
          rintro e' w5 ⟨b, rfl, hbad, hm5, _⟩
          have HBD5 := Lib.hid hbad
          have HM5 := Lib.hid hm5
          clear hbad hm5
          go_wp2_with ((with_reducible refine wpList_store_node (au := 0) (cl := 0) (pv := .slice none 0 0) (ov := .slice none 0 0) _ _ rfl ?hgd ?hx ?hy (Blk.new _ _ _) ?hold ?hp ?hv ?_); (case hgd => exact rfl); (case hx => exact rfl); (case hy => exact rfl); (case hold => exact rfl); (case hp => exact rfl); (case hv => exact rfl); intro w6 hb6 hm6; have hmx : Mod [] w5 w6 := ((Mod.refl [] w5).alloc _).then hm6 (by simp); have HN6 := Lib.hid hb6; have HBD6 := Lib.hid (Blk.mod HBD5.out hmx (by simp)); have HM6 := Lib.hid (HM5.out.trans hmx); clear hb6 hm6 hmx)
          have HTO := Lib.hid (told_bad w6 b 20 a HBD6.out (by decide))
          refine HTO.out.mono ?_
          rintro e' w7 ⟨rfl, hm7⟩
          have HM7 := Lib.hid (HM6.out.trans hm7)
          have HN7 := Lib.hid (HN6.out.mod hm7 (by simp))
          obtain ⟨q9, hq9⟩ : ∃ q9, w5.heap.size = q9 := ⟨_, rfl⟩
          rw [hq9] at HN7
          rw [hq9]
          clear hm7 HBD5 HM5 HN6 HBD6 HM6 HTO hq9
          unfold errV
          go_upto_region 15 with fail
          have hm8 : Mod [] w7 (w7.alloc (.cells #[.int .i64 20, .int .i64 ((a : Nat) : Int)] 36)) := (Mod.refl [] w7).alloc _
          have HE8 := Lib.hid (Blk.new w7 36 #[.int .i64 20, .int .i64 ((a : Nat) : Int)])
          have HN8 := Lib.hid (HN7.out.mod hm8 (by simp))
          have HM8 := Lib.hid (HM7.out.trans hm8)
          obtain ⟨w8, hw8⟩ : ∃ w8, w7.alloc (.cells #[.int .i64 20, .int .i64 ((a : Nat) : Int)] 36) = w8 := ⟨_, rfl⟩
          obtain ⟨z, hz8⟩ : ∃ z, w7.heap.size = z := ⟨_, rfl⟩
          rw [hw8] at HE8 HN8 HM8
          rw [hz8] at HE8
          rw [hw8, hz8]
          clear hw8 hz8 hm8 HN7 HM7
          have e0 := HE8.out.cell 0
          have e1 := HE8.out.cell 1
          obtain ⟨_, _, _, _, HC8⟩ := HN8.out.open_
          go_wp2_with (first | ((with_reducible refine wpList_load_node _ rfl ?hgd HC8.out ?hx ?_); (case hgd => exact rfl); (case hx => exact rfl)))
          refine (nodeSame_nil _).mono ?_
          rintro e' w9 ⟨rfl, hm9⟩
          go_wp2_with fail
          go_ret
          exact ⟨rfl, HMW.out.trans (HM8.out.trans hm9)⟩
    · by_cases hmore : 0 < more.length ∧ B.length + more.length ≤ 1048576
      · obtain ⟨hm0, hm1⟩ := hmore
        have hm0i : (0 : Int) < more.length := by omega
        have hm1i : ((B.length : Int) + more.length) ≤ 1048576 := by omega
        have HBX : Hid (BS w3 g3 (.slice A3 B.length B.length) B) := Lib.hid (by
          obtain ⟨hl, A, cap, hv, hn, hc, hf⟩ := HB3.out
          injection hv with hA _ _
          subst hA
          exact ⟨hl, A3, B.length, rfl, Nat.le_refl _, by unfold maxLen; omega, hf⟩)
        have HMX : Hid (BS w3 gm (.slice mA more.length mc) more) := Lib.hid (HM.out.mod HM3.out (by simp))
        go_wp2_with (at_builtin; refine wpList_append_full_bytes rfl _ _ rfl HBX.out rfl HMX.out rfl hm0 ?_ ?hz; intro A4 n4 c4 w4 hown4 hn4 hm4 HF4; obtain ⟨g4, hb4, _⟩ := hown4.bs; have HD4 := Lib.hid (decode_any (B ++ more) g4 _ w4 hb4); have HM4 := Lib.hid hm4; clear hown4 hm4 HF4 hb4 hn4)
        case hz => omega
        rw [HLA.out hm0 hm1] at HD4
        clear HBX HMX
        refine HD4.out.mono ?_
        clear HD4
        rintro e' w5 ⟨b, rfl, hbad, hm5, _⟩
        have HBD5 := Lib.hid hbad
        have HM5 := Lib.hid hm5
        clear hbad hm5
        go_wp2_with ((with_reducible refine wpList_store_node (au := 0) (cl := 0) (pv := .slice none 0 0) (ov := .slice none 0 0) _ _ rfl ?hgd ?hx ?hy (Blk.new _ _ _) ?hold ?hp ?hv ?_); (case hgd => exact rfl); (case hx => exact rfl); (case hy => exact rfl); (case hold => exact rfl); (case hp => exact rfl); (case hv => exact rfl); intro w6 hb6 hm6; have hmx : Mod [] w5 w6 := ((Mod.refl [] w5).alloc _).then hm6 (by simp); have HN6 := Lib.hid hb6; have HBD6 := Lib.hid (Blk.mod HBD5.out hmx (by simp)); have HM6 := Lib.hid (HM5.out.trans hmx); clear hb6 hm6 hmx)
        have HTO := Lib.hid (told_bad w6 b 23 B.length HBD6.out (by decide))
        refine HTO.out.mono ?_
        rintro e' w7 ⟨rfl, hm7⟩
        have HM7 := Lib.hid (HM6.out.trans hm7)
        have HN7 := Lib.hid (HN6.out.mod hm7 (by simp))
        obtain ⟨q9, hq9⟩ : ∃ q9, w5.heap.size = q9 := ⟨_, rfl⟩
        rw [hq9] at HN7
        rw [hq9]
        clear hm7 HBD5 HM5 HN6 HBD6 HM6 HTO hq9
        unfold errV
        go_upto_region 9 with fail
        have hm8 : Mod [] w7 (w7.alloc (.cells #[.int .i64 23, .int .i64 ((B.length : Nat) : Int)] 36)) := (Mod.refl [] w7).alloc _
        have HE8 := Lib.hid (Blk.new w7 36 #[.int .i64 23, .int .i64 ((B.length : Nat) : Int)])
        have HN8 := Lib.hid (HN7.out.mod hm8 (by simp))
        have HM8 := Lib.hid (HM7.out.trans hm8)
        obtain ⟨w8, hw8⟩ : ∃ w8, w7.alloc (.cells #[.int .i64 23, .int .i64 ((B.length : Nat) : Int)] 36) = w8 := ⟨_, rfl⟩
        obtain ⟨z, hz8⟩ : ∃ z, w7.heap.size = z := ⟨_, rfl⟩
        rw [hw8] at HE8 HN8 HM8
        rw [hz8] at HE8
        rw [hw8, hz8]
        clear hw8 hz8 hm8 HN7 HM7
        have e0 := HE8.out.cell 0
        have e1 := HE8.out.cell 1
        obtain ⟨_, _, _, _, HC8⟩ := HN8.out.open_
        go_wp2_with (first | ((with_reducible refine wpList_load_node _ rfl ?hgd HC8.out ?hx ?_); (case hgd => exact rfl); (case hx => exact rfl)))
        refine (nodeSame_nil _).mono ?_
        rintro e' w9 ⟨rfl, hm9⟩
        have HMW : Hid (Mod [] w w9) := Lib.hid ((HM3.out.trans HM4.out).trans (HM8.out.trans hm9))
        have HBW : Hid (BS w9 g3 (.slice A3 B.length c3) B) := Lib.hid (HB3.out.mod (HM4.out.trans (HM8.out.trans hm9)) (by simp))
        clear hm9 e0 e1 HC8 HE8 HN8 HM8 HM4 HB3 HM3 hm0 hm1 hm0i hm1i
        by_cases hneg : cut < 0
        · go_wp2_with fail
          go_ret
          exact ⟨rfl, HMW.out⟩
        · have hge : (B.length : Int) ≤ cut := by omega
          go_wp2_with fail
          go_ret
          exact ⟨rfl, HMW.out⟩
      · have HMW := HM3
        have HBW : Hid (BS w3 g3 (.slice A3 B.length c3) B) := HB3
        clear HM3 HB3
        by_cases hm0 : (0 : Int) < more.length
        · have hm1 : ¬ ((B.length : Int) + more.length ≤ 1048576) := by omega
          by_cases hneg : cut < 0
          · go_wp2_with fail
            go_ret
            exact ⟨rfl, HMW.out⟩
          · have hge : (B.length : Int) ≤ cut := by omega
            go_wp2_with fail
            go_ret
            exact ⟨rfl, HMW.out⟩
        · by_cases hneg : cut < 0
          · go_wp2_with fail
            go_ret
            exact ⟨rfl, HMW.out⟩
          · have hge : (B.length : Int) ≤ cut := by omega
            go_wp2_with fail
            go_ret
            exact ⟨rfl, HMW.out⟩
  · have hr0 : ((r.2 : Int) == 0) = false := by simp; omega
    have hr1 : ¬ ((r.2 : Int) = 0) := by omega
    obtain ⟨A3, c3, rfl, _, _⟩ := hown3.val
    clear hown3 hm3 hf3 HM2 HE0
    go_wp2_with fail
    go_ret
    exact ⟨rfl, HM3.out⟩
end Go.Proofs.Ytlpjeckhejbkkaa
