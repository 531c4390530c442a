import Derived.Test.YtlpjeckhejbkkaaNRd2
set_option linter.unusedVariables false
set_option linter.unusedSimpArgs false
set_option maxRecDepth 20000
set_option maxHeartbeats 3200000
namespace Go.Proofs.Ytlpjeckhejbkkaa
open Go.RowKit

def NodeRxP (w : World) (r p : Nat) (res : Rd GNode) (e' : Ending) (w' : World) : Prop :=
  match res with
  | .ok n _ => ∃ pv ov, e' = .returned (nodeV n.author n.clock pv ov) ∧ OwnH w' pv n.parents ∧ OwnO w' ov n.ops ∧ (∀ b ∈ blks pv, w.heap.size ≤ b) ∧ (∀ b ∈ blks ov, w.heap.size ≤ b) ∧ Mod [p, r] w w'
  | .bad why at_ => StopP w r p why at_ e' w'
theorem NodeRxP.stop {w wr w' : World} {r p why at_ : Nat} {res : Rd GNode} {e : Ending} (hres : res = .bad why at_) (hm : Mod [p, r] w wr) (h : StopP wr r p why at_ e w') : NodeRxP w r p res e w' := by
  rw [hres]
  exact h.later hm
theorem rdrNode_any (r p g : Nat) (xs : Bytes) (w : World) (h : RdrB w r p g xs 0) (hz : xs.length ≤ 1048576) :
    Calls Try.prog 28 #[ptr r] w (NodeRxP w r p (rdNodeE xs)) := by
  have HR := Lib.hid h; clear h
  have hlt : p < w.heap.size ∧ r < w.heap.size ∧ (0 < xs.length → g < w.heap.size) := ⟨HR.out.2.1.lt, HR.out.1.lt, fun h0 => by
    obtain ⟨v, _, hr, _⟩ := HR.out.2.1
    obtain ⟨_, _, _, _, _, hl', _⟩ := hr.at_ h0
    exact hl'⟩
  have HLT := Lib.hid hlt; clear hlt
  obtain ⟨res, hres⟩ : ∃ res, rdNodeE xs = res := ⟨_, rfl⟩
  have HRES := Lib.hid hres.symm
  rw [hres]
  unfold rdNodeE at HRES
  clear hres
  go_enter Try.func28, Try.ntmps28
  go_wp2_with fail
  have HRD0 := Lib.hid (HR.out.mod0 ((Mod.refl [] w).alloc (.cells (nodeL 0 0 (.slice none 0 0) (.slice none 0 0)).toArray 26)))
  have HBY := Lib.hid (rdrByte_any r p g xs _ 0 HRD0.out (by omega))
  refine HBY.out.mono ?_
  intro e' w1 hp1
  clear HBY
  cases hb : rdByte xs 0 with
  | bad why at_ =>
    rw [hb] at hp1 HRES
    obtain ⟨q, rfl, hst⟩ := hp1
    exact ⟨rfl, NodeRxP.stop HRES.out ((Mod.refl [p, r] w).alloc _) ⟨q, rfl, hst⟩⟩
  | ok form p1 =>
    rw [hb] at hp1 HRES
    obtain ⟨rfl, hR1, hm1⟩ := hp1
    change Hid (res = rdNode1 xs form p1) at HRES
    unfold rdNode1 at HRES
    by_cases hf : form = 1
    · rw [if_pos hf] at HRES
      have hfi : ((form.toNat : Int) == 1) = true := by rw [hf]; rfl
      go_wp2_with (first | (go_at_call 45; refine (rdrBad_no _ _ _ _).mono ?_; rintro e' w2 ⟨rfl, rfl⟩))
      have hm01 := ((Mod.refl [p, r] w).alloc (.cells (nodeL 0 0 (.slice none 0 0) (.slice none 0 0)).toArray 26)).trans hm1
      have hb0 : NodB w1 w.heap.size 0 0 (.slice none 0 0) (.slice none 0 0) := NodB.mod (Blk.new w _ _) hm1 (by have := HLT.out; simp; omega)
      have HR1 := Lib.hid hR1
      have HM1 := Lib.hid hm01
      have HB1 := Lib.hid hb0
      have HBY := Lib.hid (rdrByte_any r p g xs w1 p1 hR1 (by have := rdByte_cut hb; omega))
      clear hR1 hm1 hm01 hb0 HRD0 hfi hf hb
      refine HBY.out.mono ?_
      intro e' w2 hp2
      clear HBY
      cases hb : rdByte xs p1 with
      | bad why at_ =>
        rw [hb] at hp2 HRES
        obtain ⟨q, rfl, hst⟩ := hp2
        exact ⟨rfl, NodeRxP.stop HRES.out HM1.out ⟨q, rfl, hst⟩⟩
      | ok au p2 =>
        rw [hb] at hp2 HRES
        obtain ⟨rfl, hR2, hm2⟩ := hp2
        change Hid (res = rdNode2 xs au p2) at HRES
        have hp2l := (rdByte_cut hb).2.2
        obtain ⟨q2, hq2⟩ : ∃ q2, w.heap.size = q2 := ⟨_, rfl⟩
        have hB2 : NodB w2 q2 0 0 (.slice none 0 0) (.slice none 0 0) := by rw [← hq2]; exact HB1.out.mod hm2 (by have := HLT.out; simp; omega)
        have HB2 := Lib.hid hB2
        have HR2 := Lib.hid hR2
        have HM2 := Lib.hid (HM1.out.trans hm2)
        have HQ2 := Lib.hid hq2
        rw [hq2]
        have hwa : IntKind.i64.wrap (au.toNat : Int) = (au.toNat : Int) := IntWalk.i64_in _ (by have := au.toNat_lt; omega)
        clear hR2 hm2 hb hB2 hq2 HB1 HM1 HR1
        unfold bv
        obtain ⟨ai, hai⟩ : ∃ ai : Nat, au.toNat = ai := ⟨_, rfl⟩
        rw [hai] at hwa ⊢
        unfold rdNode2 at HRES
        rw [hai] at HRES
        clear hai
        have hzz : Value.agg #[.int .i64 (ai : Int), .int .i64 0, .slice none 0 0, .slice none 0 0] = nodeV ai 0 (.slice none 0 0) (.slice none 0 0) := rfl
        go_upto_region 3 with (first | ((with_reducible refine wpList_store_node (au := (ai : Int)) (cl := 0) (pv := .slice none 0 0) (ov := .slice none 0 0) _ _ rfl ?hgd ?hx ?hy (Blk.new _ _ _) ?hold ?hp ?hv ?_); (case hgd => exact rfl); (case hx => exact rfl); (case hy => exact rfl); (case hold => exact rfl); (case hp => exact rfl); (case hv => exact rfl); intro w3 hb3 hm3; have HNS : Hid (NS w r p g xs p2 q2 w2.heap.size ai 0 (.slice none 0 0) (.slice none 0 0) w3) := Lib.hid (have hmw := HM2.out; have hmx : Mod [] w2 w3 := ((Mod.refl [] w2).alloc _).then hm3 (by simp); ⟨HR2.out.mod0 hmx, hb3, HB2.out.mod hmx (by simp), hmw.trans (hmx.mono (by simp)), by have := HB2.out.lt; omega, by rw [HQ2.out]; omega, hmw.size, HLT.out⟩); clear hb3 hm3))
        clear hzz hwa HB2 HR2
        have HW2 : Hid (Mod [p, r] w w3) := Lib.hid HNS.out.md
        obtain ⟨q3, hq3⟩ : ∃ q3, w2.heap.size = q3 := ⟨_, rfl⟩
        rw [hq3] at HNS
        rw [hq3]
        clear hq3 HM2 HQ2
        by_cases ha : 1 ≤ ai ∧ ai ≤ 8
        · rw [if_pos ha] at HRES
          obtain ⟨d0, d1, d2, d3, _⟩ := HNS.out.nod.open_
          have hx1 : ¬ ((ai : Int) < 1) := by omega
          have hx2 : ¬ ((8 : Int) < (ai : Int)) := by omega
          go_wp2_with (first | (go_at_call 45; refine (rdrBad_no _ _ _ _).mono ?_; rintro e' w4 ⟨rfl, rfl⟩))
          have HNU := Lib.hid (rdrNumber_any 4096 r p g xs w3 p2 HNS.out.rd hp2l (by omega))
          clear hx1 hx2 d0 d1 d2 d3
          refine HNU.out.mono ?_
          intro e' w4 hp4
          clear HNU
          cases hb : rdNum xs p2 4096 with
          | bad why at_ =>
            rw [hb] at hp4 HRES
            obtain ⟨q, rfl, hst⟩ := hp4
            exact ⟨rfl, NodeRxP.stop HRES.out HNS.out.md ⟨q, rfl, hst⟩⟩
          | ok cl p3 =>
            rw [hb] at hp4 HRES
            obtain ⟨rfl, hR4, hm4⟩ := hp4
            change Hid (res = rdNode3 xs ai cl p3) at HRES
            obtain ⟨hcl4, _, hp3l, _⟩ := rdNum_ok hb hp2l
            have HN4 := Lib.hid (HNS.out.read hR4 hm4)
            clear hR4 hm4 hb HNS
            obtain ⟨d0, d1, d2, d3, _⟩ := HN4.out.nod.open_
            have f1 := HN4.out.nod.frozen 1
            unfold rdNode3 at HRES
            go_upto_region 5 with fail
            have hm5 : Mod [q3] w4 (w4.setCell ⟨q3, 1, none⟩ (.int .i64 (cl : Int))) := (Mod.refl [q3] w4).setCell _ (by simp) _
            have HN5 := Lib.hid (HN4.out.put HN4.out.nod.set1 hm5)
            obtain ⟨w5, hw5⟩ : ∃ w5, w4.setCell ⟨q3, 1, none⟩ (.int .i64 (cl : Int)) = w5 := ⟨_, rfl⟩
            rw [hw5] at HN5
            rw [hw5]
            clear hw5 hm5 HN4 d0 d1 d2 d3 f1
            obtain ⟨d0, d1, d2, d3, _⟩ := HN5.out.nod.open_
            by_cases hc0 : cl = 0
            · rw [if_pos hc0] at HRES
              have hci : ((cl : Int) == 0) = true := by rw [hc0]; rfl
              have HY := Lib.hid (rdrBad_yes r p g xs p3 51 2 w5 HN5.out.rd)
              clear hc0
              go_wp2_with fail
              refine HY.out.mono ?_
              rintro e' w6 ⟨q, rfl, hst⟩
              exact ⟨rfl, NodeRxP.stop HRES.out HN5.out.md ⟨q, rfl, hst⟩⟩
            · rw [if_neg hc0] at HRES
              have hci : ((cl : Int) == 0) = false := by simp; omega
              go_wp2_with (first | (go_at_call 45; refine (rdrBad_no _ _ _ _).mono ?_; rintro e' w6 ⟨rfl, rfl⟩))
              have HNU := Lib.hid (rdrNumber_any 64 r p g xs w5 p3 HN5.out.rd hp3l (by omega))
              clear hci d0 d1 d2 d3
              refine HNU.out.mono ?_
              intro e' w6 hp6
              clear HNU
              cases hb : rdNum xs p3 64 with
              | bad why at_ =>
                rw [hb] at hp6 HRES
                obtain ⟨q, rfl, hst⟩ := hp6
                exact ⟨rfl, NodeRxP.stop HRES.out HN5.out.md ⟨q, rfl, hst⟩⟩
              | ok many p4 =>
                rw [hb] at hp6 HRES
                obtain ⟨rfl, hR6, hm6⟩ := hp6
                obtain ⟨hmany, _, hp4l, _⟩ := rdNum_ok hb hp3l
                have HN6 := Lib.hid (HN5.out.read hR6 hm6)
                change Hid (res = if decide (cl = 1) = decide (many = 0) then (rdHashes xs many p4 []).bind (rdTail xs ai cl) else .bad 51 2) at HRES
                have HCB0 := Lib.hid (clockBad_iff cl many)
                clear hR6 hm6 hb HN5
                obtain ⟨d0, d1, d2, d3, _⟩ := HN6.out.nod.open_
                go_wp2_with fail
                have HB6 : Hid (clockBad (cl : Int) many = !(((cl : Int) == 1) == ((many : Int) == 0))) := Lib.hid rfl
                rw [← HB6.out]
                clear HB6 d0 d1 d2 d3
                by_cases hd : decide (cl = 1) = decide (many = 0)
                · rw [if_pos hd] at HRES
                  have hcb : clockBad (cl : Int) many = false := by
                    cases hx : clockBad (cl : Int) many with
                    | false => rfl
                    | true => exact absurd (by rw [show decide ((cl : Int) = 1) = decide (cl = 1) by congr 1; simp; omega]; exact hd) (HCB0.out.1 hx)
                  rw [hcb]
                  refine (rdrBad_no _ _ _ _).mono ?_
                  rintro e' w7 ⟨rfl, rfl⟩
                  clear hcb hd HCB0
                  go_wp2_with fail
                  obtain ⟨K, hK⟩ : ∃ K, rdTail xs (ai : Int) (cl : Int) = K := ⟨_, rfl⟩
                  have HKT := Lib.hid hK
                  rw [hK] at HRES
                  clear hK
                  go_loopw [49] (fun s49 wr => ∃ (i : Nat) (A : Option Addr) (n c : Nat) (done : List GHash) (pos : Nat), s49 = .int .i64 (i : Int) ∧ i ≤ many ∧ pos ≤ xs.length ∧ Hid (NS w r p g xs pos q2 q3 ai cl (.slice A n c) (.slice none 0 0) wr) ∧ Hid (OwnH wr (.slice A n c) done) ∧ Hid (done.length = i) ∧ Hid (∀ b ∈ blks (.slice A n c), w.heap.size ≤ b) ∧ Hid (res = (rdHashes xs (many - i) pos done).bind K)) (fun s _ => many - (intOf s).toNat)
                  case atStart => exact ⟨0, none, 0, 0, [], p4, rfl, by omega, hp4l, HN6, Lib.hid (OwnH.nil _), Lib.hid rfl, Lib.hid (by simp [blks, Value.ownBlock]), HRES⟩
                  case round =>
                    obtain ⟨i, A, n, c, done, pos, rfl, hi, hpos, HN, HOW, HDL, HBK, HRS⟩ := hrel
                    clear HN6 HRES hp4l
                    have HAT := Lib.hid (at_any p g xs wr pos .nilIface HN.out.rd.2.1)
                    obtain ⟨c0, hrl, hpl⟩ := HN.out.rd.cells
                    by_cases him : i < many
                    · obtain ⟨k, hk⟩ : ∃ k, many - i = k + 1 := ⟨many - i - 1, by omega⟩
                      have hk2 : many - (i + 1) = k := by omega
                      have HK2 := Lib.hid hk2
                      rw [hk] at HRS
                      unfold rdHashes at HRS
                      have hii : (i : Int) < (many : Int) := by omega
                      go_wp2_with (first | (go_at_call 48; refine HAT.out.mono ?_; rintro e' w7 ⟨rfl, rfl⟩))
                      have HHA := Lib.hid (rdrHash_any r p g xs wr pos HN.out.rd hpos)
                      clear c0 hrl hpl HAT hk hk2
                      refine HHA.out.mono ?_
                      intro e' w7 hp7
                      clear HHA
                      cases hb : rdHash xs pos with
                      | bad why at_ =>
                        rw [hb] at hp7 HRS
                        obtain ⟨q, rfl, hst⟩ := hp7
                        exact ⟨rfl, NodeRxP.stop HRS.out HN.out.md ⟨q, rfl, hst⟩⟩
                      | ok h p5 =>
                        rw [hb] at hp7 HRS
                        obtain ⟨rfl, hR7, hm7⟩ := hp7
                        have hp5l : p5 ≤ xs.length := by
                          have := bl_hash pos (xs := xs)
                          exact ((this hpos).2 h p5 hb).2
                        have HN7 := Lib.hid (HN.out.read hR7 hm7)
                        have HOW7 := Lib.hid (HOW.out.mod hm7 (fun b hb => by have := HBK.out b hb; have := HLT.out; simp; omega))
                        clear hR7 hm7 hb HN HOW
                        change Hid (res = (if risesTo done h then rdHashes xs k p5 (done ++ [h]) else .bad 52 pos : Rd (List GHash)).bind K) at HRS
                        go_upto_region 13 with (first | ((with_reducible refine wpList_store_hashN (o := h) _ _ rfl ?hgd ?hx ?hy (Blk.new _ _ _) ?hold ?_); (case hgd => exact rfl); (case hx => exact rfl); (case hy => exact rfl); (case hold => exact rfl); intro w8 hb8 hm8; have hmx : Mod [] w7 w8 := ((Mod.refl [] w7).alloc _).then hm8 (by simp); have HB8 := Lib.hid hb8; have HN8 := Lib.hid (HN7.out.mod0 hmx); have HOW8 := Lib.hid (HOW7.out.mod hmx (by simp)); clear hb8 hm8 hmx))
                        obtain ⟨q7, hq7⟩ : ∃ q7, w7.heap.size = q7 := ⟨_, rfl⟩
                        rw [hq7] at HB8
                        rw [hq7]
                        clear hq7 HN7 HOW7
                        by_cases hi0 : i = 0
                        · have hgi : ¬ ((0 : Int) < (i : Int)) := by omega
                          have hrise : risesTo done h = true := by
                            have e : done = [] := List.eq_nil_of_length_eq_zero (by rw [HDL.out]; exact hi0)
                            rw [e]; rfl
                          rw [if_pos hrise] at HRS
                          clear hrise
                          refine wp_regionE (Mod []) (by kernel_rfl) ?_
                          simp only [List.size_toArray, List.length_cons, List.length_nil, Nat.zero_add, Nat.reduceAdd]
                          refine wpAnyE_takeL (preMod _) 0 (v := ?_) rfl (by kernel_rfl) (by kernel_rfl) (by kernel_rfl) (fun _ _ _ h => h) (Or.inl ⟨by rfl, ?_⟩) ?_
                          rotate_left; (intro W hW; (try dsimp only at hW); go_simp; try with_reducible rfl)
                          (try simp only [Act.put, List.setIfInBounds_toArray, List.set_cons_zero, List.set_cons_succ])
                          refine wpAnyE_takeL (preMod _) 1 (v := ?_) rfl (by kernel_rfl) (by kernel_rfl) (by kernel_rfl) (fun _ _ _ h => h) (Or.inl ⟨by rfl, ?_⟩) ?_
                          rotate_left; (intro W hW; (try dsimp only at hW); go_simp; try with_reducible rfl)
                          (try simp only [Act.put, List.setIfInBounds_toArray, List.set_cons_zero, List.set_cons_succ])
                          refine wpAnyE_takeL (preMod _) 2 (v := ?_) rfl (by kernel_rfl) (by kernel_rfl) (by kernel_rfl) (fun _ _ _ h => h) (Or.inl ⟨by rfl, ?_⟩) ?_
                          rotate_left; (intro W hW; (try dsimp only at hW); go_simp; try with_reducible rfl)
                          (try simp only [Act.put, List.setIfInBounds_toArray, List.set_cons_zero, List.set_cons_succ])
                          refine wpAnyE_takeL (preMod _) 3 (v := ?_) rfl (by kernel_rfl) (by kernel_rfl) (by kernel_rfl) (fun _ _ _ h => h) (Or.inl ⟨by rfl, ?_⟩) ?_
                          rotate_left; (intro W hW; (try dsimp only at hW); go_simp; try with_reducible rfl)
                          (try simp only [Act.put, List.setIfInBounds_toArray, List.set_cons_zero, List.set_cons_succ])
                          refine wpAnyE_takeL (preMod _) 4 (v := undef) rfl (by kernel_rfl) (by kernel_rfl) (by kernel_rfl) (fun _ _ _ h => h) (Or.inr ⟨by rfl, rfl⟩) ?_
                          (try simp only [Act.put, List.setIfInBounds_toArray, List.set_cons_zero, List.set_cons_succ])
                          refine wpAnyE_takeL (preMod _) 5 (v := undef) rfl (by kernel_rfl) (by kernel_rfl) (by kernel_rfl) (fun _ _ _ h => h) (Or.inr ⟨by rfl, rfl⟩) ?_
                          (try simp only [Act.put, List.setIfInBounds_toArray, List.set_cons_zero, List.set_cons_succ])
                          refine wpAnyE_takeL (preMod _) 6 (v := undef) rfl (by kernel_rfl) (by kernel_rfl) (by kernel_rfl) (fun _ _ _ h => h) (Or.inr ⟨by rfl, rfl⟩) ?_
                          (try simp only [Act.put, List.setIfInBounds_toArray, List.set_cons_zero, List.set_cons_succ])
                          refine wpAnyE_takeL (preMod _) 7 (v := undef) rfl (by kernel_rfl) (by kernel_rfl) (by kernel_rfl) (fun _ _ _ h => h) (Or.inr ⟨by rfl, rfl⟩) ?_
                          (try simp only [Act.put, List.setIfInBounds_toArray, List.set_cons_zero, List.set_cons_succ])
                          refine wpAnyE_takeL (preMod _) 8 (v := undef) rfl (by kernel_rfl) (by kernel_rfl) (by kernel_rfl) (fun _ _ _ h => h) (Or.inr ⟨by rfl, rfl⟩) ?_
                          (try simp only [Act.put, List.setIfInBounds_toArray, List.set_cons_zero, List.set_cons_succ])
                          refine wpAnyE_takeL (preMod _) 9 (v := undef) rfl (by kernel_rfl) (by kernel_rfl) (by kernel_rfl) (fun _ _ _ h => h) (Or.inr ⟨by rfl, rfl⟩) ?_
                          (try simp only [Act.put, List.setIfInBounds_toArray, List.set_cons_zero, List.set_cons_succ])
                          refine wpAnyE_takeL (preMod _) 10 (v := undef) rfl (by kernel_rfl) (by kernel_rfl) (by kernel_rfl) (fun _ _ _ h => h) (Or.inr ⟨by rfl, rfl⟩) ?_
                          (try simp only [Act.put, List.setIfInBounds_toArray, List.set_cons_zero, List.set_cons_succ])
                          refine wpAnyE_takeL (preMod _) 11 (v := undef) rfl (by kernel_rfl) (by kernel_rfl) (by kernel_rfl) (fun _ _ _ h => h) (Or.inr ⟨by rfl, rfl⟩) ?_
                          (try simp only [Act.put, List.setIfInBounds_toArray, List.set_cons_zero, List.set_cons_succ])
                          refine wpAnyE_takeL (preMod _) 12 (v := undef) rfl (by kernel_rfl) (by kernel_rfl) (by kernel_rfl) (fun _ _ _ h => h) (Or.inr ⟨by rfl, rfl⟩) ?_
                          (try simp only [Act.put, List.setIfInBounds_toArray, List.set_cons_zero, List.set_cons_succ])
                          refine wpAnyE_takeL (preMod _) 13 (v := ?_) rfl (by kernel_rfl) (by kernel_rfl) (by kernel_rfl) (fun _ _ _ h => h) (Or.inl ⟨by rfl, ?_⟩) ?_
                          rotate_left; (intro W hW; (try dsimp only at hW); go_simp; try with_reducible rfl)
                          (try simp only [Act.put, List.setIfInBounds_toArray, List.set_cons_zero, List.set_cons_succ])
                          refine wpAnyE_takeL (preMod _) 14 (v := ?_) rfl (by kernel_rfl) (by kernel_rfl) (by kernel_rfl) (fun _ _ _ h => h) (Or.inl ⟨by rfl, ?_⟩) ?_
                          rotate_left; (intro W hW; (try dsimp only at hW); go_simp; try with_reducible rfl)
                          (try simp only [Act.put, List.setIfInBounds_toArray, List.set_cons_zero, List.set_cons_succ])
                          refine wpAnyE_ready (rs := [15]) (by kernel_rfl) (by simp) ?_
                          refine AllReadyE.consL rfl (fun K hK => ?_) AllReadyE.nil
                          rw [if_pos (by rfl)]
                          go_simp
                          go_at_call 45
                          (with_reducible refine (rdrBad_no _ _ _ _).mono ?_)
                          rintro e' w9 ⟨rfl, rfl⟩
                          go_wp2_with fail
                          refine hK.out _ _ (by first | exact hmE | exact Mod.refl _ _ | exact (Mod.refl _ _).alloc _) ?_
                          clear hK
                          (try simp only [Act.put, List.setIfInBounds_toArray, List.set_cons_zero, List.set_cons_succ])
                          refine wpAnyE_done (by kernel_rfl) ?_ _
                          have hdm : Mod [] w8 w8.drew := (Mod.refl [] w8).drew
                          have HN9 := Lib.hid (HN8.out.mod0 hdm)
                          have HOW9 := Lib.hid (HOW8.out.mod hdm (by simp))
                          have HB9 := Lib.hid (HB8.out.mod hdm (by simp))
                          obtain ⟨w9, hw9⟩ : ∃ w9, w8.drew = w9 := ⟨_, rfl⟩
                          rw [hw9] at HN9 HOW9 HB9
                          rw [hw9]
                          clear hdm hw9 HN8 HOW8 HB8
                          obtain ⟨d0, d1, d2, d3, _⟩ := HN9.out.nod.open_
                          have HH9 : Hid (HashAt w9 q7 0 h) := Lib.hid (CellsAt.of_blk HB9.out)
                          clear HB9
                          go_wp2_with (first | ((with_reducible refine wpList_load_hash _ rfl ?hgd HH9.out ?hx ?_); (case hgd => exact rfl); (case hx => exact rfl)) | ((with_reducible refine wpList_buildSlice_hash (o := h) _ rfl ?hgd ?hx ?_); (case hgd => exact rfl); (case hx => exact rfl); intro g10 w10 hs10 hm10 hg10 hl10; have HS10 := Lib.hid hs10; have HN10 := Lib.hid (HN9.out.mod0 hm10); have HOW10 := Lib.hid (HOW9.out.mod hm10 (by simp)); clear hs10 hm10 hg10 hl10) | (at_builtin; refine wpList_append_hashes rfl _ _ rfl HOW10.out rfl HS10.out rfl ?_ ?hz; intro A11 n11 c11 w11 hown11 hn11 hm11 HF11; have HN11 := Lib.hid (HN10.out.mod hm11 (fun b hb => ⟨HBK.out b hb, fun h1 => own_ne HOW10.out HN10.out.res (by decide) (h1 ▸ hb), fun h1 => own_ne HOW10.out HN10.out.nod (by decide) (h1 ▸ hb)⟩)); obtain ⟨e0, e1, e2, e3, _⟩ := HN11.out.nod.open_; have f2 := HN11.out.nod.frozen 2; have HN12 := Lib.hid (HN11.out.put (NodB.set2 (pv' := .slice A11 n11 c11) HN11.out.nod) ((Mod.refl [q3] w11).setCell ⟨q3, 2, none⟩ (by simp) _)); have HOW12 : Hid (OwnH (w11.setCell ⟨q3, 2, none⟩ (.slice A11 n11 c11)) (.slice A11 n11 c11) (done ++ [h])) := Lib.hid (OwnH.mod hown11 ((Mod.refl [q3] w11).setCell ⟨q3, 2, none⟩ (by simp) _) (fun b hb h1 => own_ne hown11 HN11.out.nod (by decide) (by simp at h1; rw [← h1]; exact hb))); have HBK12 : Hid (∀ b ∈ blks (.slice A11 n11 c11), w.heap.size ≤ b) := Lib.hid (fun b hb => (HF11.out b hb).elim (HBK.out b) (fun h1 => by have := HN10.out.md.size; omega)); clear hown11 hm11 hn11 HF11))
                          case hz => have := HDL.out; simp; omega
                          go_roundw
                          case rel => exact ⟨i + 1, A11, n11, c11, done ++ [h], p5, by go_num, by omega, hp5l, HN12, HOW12, Lib.hid (by rw [List.length_append, HDL.out]; rfl), HBK12, by rw [HK2.out]; exact HRS⟩
                          case measure => simp [intOf]; omega
                        · obtain ⟨m, hm⟩ : ∃ m, i = m + 1 := ⟨i - 1, by omega⟩
                          have hgi : (0 : Int) < (i : Int) := by omega
                          have hgn : 0 < i := by omega
                          have hq : IntKind.i64.wrap ((i : Int) - 1) = (m : Int) := by rw [IntWalk.i64_in _ (by omega)]; omega
                          have hdl : done.length = m + 1 := by rw [HDL.out]; exact hm
                          obtain ⟨gh, hs8, hgh⟩ := HOW8.out.hs
                          obtain ⟨off, cap', hv', _, _, _, hit⟩ := HS.item hs8 (by omega)
                          injection hv' with hA hnn hcc
                          subst hA
                          have hdm : m < done.length := by omega
                          obtain ⟨hd, hhd⟩ : ∃ hd, done[m] = hd := ⟨_, rfl⟩
                          have HIT := Lib.hid (hhd ▸ hit m hdm)
                          have hmn : (m : Int) < (n : Int) := by omega
                          have HGH : Hid (n = done.length) := Lib.hid hnn
                          have hlast : done.getLast? = some hd := by
                            rw [List.getLast?_eq_getElem?, hdl]
                            simp only [Nat.add_sub_cancel]
                            rw [List.getElem?_eq_getElem hdm, hhd]
                          have hrt := risesTo_eq done hd h hlast
                          have HS2 : Hid (∀ W, Calls Try.prog 50 #[.agg hd.cells.toArray, .agg h.cells.toArray] W fun e w' => e = .returned (.int .i64 (cmpB hd.l h.l)) ∧ Mod [] W w') := Lib.hid (fun W => shaCompare_any _ _ W)
                          obtain ⟨cc, hcc2⟩ : ∃ cc, cmpB hd.l h.l = cc := ⟨_, rfl⟩
                          rw [hcc2] at HS2 hrt
                          have HM := Lib.hid hm
                          have hw0 : Mod [] w8 w8.drew := (Mod.refl _ w8).drew
                          have hlA : ∀ W, Mod [] w8 W → CellsAt W gh (off + m * 32) hd.cells := fun W hW => CellsAt.mod HIT.out hW (by simp)
                          have hlB : ∀ W, Mod [] w8 W → CellsAt W q7 0 h.cells := fun W hW => CellsAt.of_blk (HB8.out.mod hW (by simp))
                          have hcq : ∀ W, Mod [] w8 W → W.cell? ⟨q3, 2, none⟩ = some (.slice (some ⟨gh, off, none⟩) n c) := fun W hW => (HN8.out.nod.mod hW (by simp)).open_.2.2.1
                          have HHA := Lib.hid hlA
                          have HHB := Lib.hid hlB
                          have HCQ := Lib.hid hcq
                          have HRD : Hid (∀ W, Mod [] w8 W → RdrB W r p g xs p5) := Lib.hid (fun W hW => HN8.out.rd.mod0 hW)
                          clear hit hs8 hgh hm hdl hdm hhd hnn hcc hlast hcc2 hlA hlB hcq
                          by_cases hneg : cc < 0
                          · have hge : ¬ (0 ≤ cc) := by omega
                            have hdc : decide ((0 : Int) ≤ cc) = false := decide_eq_false hge
                            rw [hrt, decide_eq_true hneg, if_pos rfl] at HRS
                            clear hrt
                            refine wp_regionE (Mod []) (by kernel_rfl) ?_
                            simp only [List.size_toArray, List.length_cons, List.length_nil, Nat.zero_add, Nat.reduceAdd]
                            refine wpAnyE_takeL (preMod _) 0 (v := ?_) rfl (by kernel_rfl) (by kernel_rfl) (by kernel_rfl) (fun _ _ _ h => h) (Or.inl ⟨by rfl, ?_⟩) ?_
                            rotate_left; (intro W hW; (try dsimp only at hW); go_simp; try with_reducible rfl)
                            (try simp only [Act.put, List.setIfInBounds_toArray, List.set_cons_zero, List.set_cons_succ])
                            refine wpAnyE_takeL (preMod _) 1 (v := ?_) rfl (by kernel_rfl) (by kernel_rfl) (by kernel_rfl) (fun _ _ _ h => h) (Or.inl ⟨by rfl, ?_⟩) ?_
                            rotate_left; (intro W hW; (try dsimp only at hW); go_simp; try with_reducible rfl)
                            (try simp only [Act.put, List.setIfInBounds_toArray, List.set_cons_zero, List.set_cons_succ])
                            refine wpAnyE_takeL (preMod _) 2 (v := ?_) rfl (by kernel_rfl) (by kernel_rfl) (by kernel_rfl) (fun _ _ _ h => h) (Or.inl ⟨by rfl, ?_⟩) ?_
                            rotate_left; (intro W hW; (try dsimp only at hW); go_simp; try with_reducible rfl)
                            (try simp only [Act.put, List.setIfInBounds_toArray, List.set_cons_zero, List.set_cons_succ])
                            refine wpAnyE_takeL (preMod _) 3 (v := ?_) rfl (by kernel_rfl) (by kernel_rfl) (by kernel_rfl) (fun _ _ _ h => h) (Or.inl ⟨by rfl, ?_⟩) ?_
                            rotate_left; (intro W hW; (try dsimp only at hW); go_simp; try with_reducible rfl)
                            (try simp only [Act.put, List.setIfInBounds_toArray, List.set_cons_zero, List.set_cons_succ])
                            refine wpAnyE_takeL (preMod _) 4 (v := ?_) rfl (by kernel_rfl) (by kernel_rfl) (by kernel_rfl) (fun _ _ _ h => h) (Or.inl ⟨by rfl, ?_⟩) ?_
                            rotate_left; (intro W hW; (try dsimp only at hW); go_simp; try with_reducible rfl)
                            (try simp only [Act.put, List.setIfInBounds_toArray, List.set_cons_zero, List.set_cons_succ])
                            refine wpAnyE_takeL (preMod _) 5 (v := ?_) rfl (by kernel_rfl) (by kernel_rfl) (by kernel_rfl) (fun _ _ _ h => h) (Or.inl ⟨by rfl, ?_⟩) ?_
                            rotate_left; (intro W hW; (try dsimp only at hW); (have hcw := HCQ.out W (hw0.trans hW); go_simp); try with_reducible rfl)
                            (try simp only [Act.put, List.setIfInBounds_toArray, List.set_cons_zero, List.set_cons_succ])
                            refine wpAnyE_takeL (preMod _) 6 (v := ?_) rfl (by kernel_rfl) (by kernel_rfl) (by kernel_rfl) (fun _ _ _ h => h) (Or.inl ⟨by rfl, ?_⟩) ?_
                            rotate_left; (intro W hW; (try dsimp only at hW); go_simp; try with_reducible rfl)
                            (try simp only [Act.put, List.setIfInBounds_toArray, List.set_cons_zero, List.set_cons_succ])
                            refine wpAnyE_takeL (preMod _) 7 (v := ?_) rfl (by kernel_rfl) (by kernel_rfl) (by kernel_rfl) (fun _ _ _ h => h) (Or.inl ⟨by rfl, ?_⟩) ?_
                            rotate_left; (intro W hW; (try dsimp only at hW); go_simp; try with_reducible rfl)
                            (try simp only [Act.put, List.setIfInBounds_toArray, List.set_cons_zero, List.set_cons_succ])
                            refine wpAnyE_takeL (preMod _) 8 (v := ?_) rfl (by kernel_rfl) (by kernel_rfl) (by kernel_rfl) (fun _ _ _ h => h) (Or.inl ⟨by rfl, ?_⟩) ?_
                            rotate_left; (intro W hW; (try dsimp only at hW); (go_simp; try rw [if_pos (by omega)]); try with_reducible rfl)
                            (try simp only [Act.put, List.setIfInBounds_toArray, List.set_cons_zero, List.set_cons_succ])
                            refine wpAnyE_takeL (preMod _) 9 (v := ?_) rfl (by kernel_rfl) (by kernel_rfl) (by kernel_rfl) (fun _ _ _ h => h) (Or.inl ⟨by rfl, ?_⟩) ?_
                            rotate_left; (intro W hW; (try dsimp only at hW); refine (run_load_cells rtHash (.tmp 67) (by rfl) (by rfl) (GHash.cells_length _) (HHA.out W (hw0.trans hW))).trans ?_; try with_reducible rfl)
                            (try simp only [Act.put, List.setIfInBounds_toArray, List.set_cons_zero, List.set_cons_succ])
                            refine wpAnyE_takeL (preMod _) 10 (v := ?_) rfl (by kernel_rfl) (by kernel_rfl) (by kernel_rfl) (fun _ _ _ h => h) (Or.inl ⟨by rfl, ?_⟩) ?_
                            rotate_left; (intro W hW; (try dsimp only at hW); refine (run_load_cells rtHash (.tmp 7) (by rfl) (by rfl) (GHash.cells_length _) (HHB.out W (hw0.trans hW))).trans ?_; try with_reducible rfl)
                            (try simp only [Act.put, List.setIfInBounds_toArray, List.set_cons_zero, List.set_cons_succ])
                            refine wpAnyE_takeL (preMod _) 14 (v := ?_) rfl (by kernel_rfl) (by kernel_rfl) (by kernel_rfl) (fun _ _ _ h => h) (Or.inl ⟨by rfl, ?_⟩) ?_
                            rotate_left; (intro W hW; (try dsimp only at hW); go_simp; try with_reducible rfl)
                            (try simp only [Act.put, List.setIfInBounds_toArray, List.set_cons_zero, List.set_cons_succ])
                            refine wpAnyE_ready (rs := [11]) (by kernel_rfl) (by simp) ?_
                            refine AllReadyE.consL rfl (fun K hK => ?_) AllReadyE.nil
                            rw [if_pos (by rfl)]
                            go_simp
                            go_at_call 50
                            refine (HS2.out _).mono ?_
                            rintro e' w9 ⟨rfl, hm9⟩
                            have hmE := hm9
                            have HM9 : Hid (Mod [] w8 w9) := Lib.hid (hw0.trans hm9)
                            go_wp2_with fail
                            refine hK.out _ _ (by first | exact hmE | exact Mod.refl _ _ | exact (Mod.refl _ _).alloc _) ?_
                            clear hK
                            (try simp only [Act.put, List.setIfInBounds_toArray, List.set_cons_zero, List.set_cons_succ])
                            refine wpAnyE_takeL (preMod _) 12 (v := ?_) rfl (by kernel_rfl) (by kernel_rfl) (by kernel_rfl) (fun _ _ _ h => h) (Or.inl ⟨by rfl, ?_⟩) ?_
                            rotate_left; (intro W hW; (try dsimp only at hW); go_simp; try with_reducible rfl)
                            (try simp only [Act.put, List.setIfInBounds_toArray, List.set_cons_zero, List.set_cons_succ])
                            refine wpAnyE_takeL (preMod _) 13 (v := ?_) rfl (by kernel_rfl) (by kernel_rfl) (by kernel_rfl) (fun _ _ _ h => h) (Or.inl ⟨by rfl, ?_⟩) ?_
                            rotate_left; (intro W hW; (try dsimp only at hW); go_simp; try with_reducible rfl)
                            (try simp only [Act.put, List.setIfInBounds_toArray, List.set_cons_zero, List.set_cons_succ])
                            refine wpAnyE_ready (rs := [15]) (by kernel_rfl) (by simp) ?_
                            refine AllReadyE.consL rfl (fun K hK => ?_) AllReadyE.nil
                            rw [if_pos (by rfl)]
                            go_simp
                            go_at_call 45
                            (with_reducible refine (rdrBad_no _ _ _ _).mono ?_)
                            rintro e' w10 ⟨rfl, rfl⟩
                            go_wp2_with fail
                            refine hK.out _ _ (by first | exact hmE | exact Mod.refl _ _ | exact (Mod.refl _ _).alloc _) ?_
                            clear hK
                            (try simp only [Act.put, List.setIfInBounds_toArray, List.set_cons_zero, List.set_cons_succ])
                            refine wpAnyE_done (by kernel_rfl) ?_ _
                            have HN9 := Lib.hid (HN8.out.mod0 HM9.out)
                            have HOW9 := Lib.hid (HOW8.out.mod HM9.out (by simp))
                            have HB9 := Lib.hid (HB8.out.mod HM9.out (by simp))
                            clear HN8 HOW8 HB8 HM9 HHA HHB HCQ HRD HIT hw0 hq hmn
                            obtain ⟨d0, d1, d2, d3, _⟩ := HN9.out.nod.open_
                            have HH9 : Hid (HashAt w9 q7 0 h) := Lib.hid (CellsAt.of_blk HB9.out)
                            clear HB9
                            go_wp2_with (first | ((with_reducible refine wpList_load_hash _ rfl ?hgd HH9.out ?hx ?_); (case hgd => exact rfl); (case hx => exact rfl)) | ((with_reducible refine wpList_buildSlice_hash (o := h) _ rfl ?hgd ?hx ?_); (case hgd => exact rfl); (case hx => exact rfl); intro g10 w10 hs10 hm10 hg10 hl10; have HS10 := Lib.hid hs10; have HN10 := Lib.hid (HN9.out.mod0 hm10); have HOW10 := Lib.hid (HOW9.out.mod hm10 (by simp)); clear hs10 hm10 hg10 hl10) | (at_builtin; refine wpList_append_hashes rfl _ _ rfl HOW10.out rfl HS10.out rfl ?_ ?hz; intro A11 n11 c11 w11 hown11 hn11 hm11 HF11; have HN11 := Lib.hid (HN10.out.mod hm11 (fun b hb => ⟨HBK.out b hb, fun h1 => own_ne HOW10.out HN10.out.res (by decide) (h1 ▸ hb), fun h1 => own_ne HOW10.out HN10.out.nod (by decide) (h1 ▸ hb)⟩)); obtain ⟨e0, e1, e2, e3, _⟩ := HN11.out.nod.open_; have f2 := HN11.out.nod.frozen 2; have HN12 := Lib.hid (HN11.out.put (NodB.set2 (pv' := .slice A11 n11 c11) HN11.out.nod) ((Mod.refl [q3] w11).setCell ⟨q3, 2, none⟩ (by simp) _)); have HOW12 : Hid (OwnH (w11.setCell ⟨q3, 2, none⟩ (.slice A11 n11 c11)) (.slice A11 n11 c11) (done ++ [h])) := Lib.hid (OwnH.mod hown11 ((Mod.refl [q3] w11).setCell ⟨q3, 2, none⟩ (by simp) _) (fun b hb h1 => own_ne hown11 HN11.out.nod (by decide) (by simp at h1; rw [← h1]; exact hb))); have HBK12 : Hid (∀ b ∈ blks (.slice A11 n11 c11), w.heap.size ≤ b) := Lib.hid (fun b hb => (HF11.out b hb).elim (HBK.out b) (fun h1 => by have := HN10.out.md.size; omega)); clear hown11 hm11 hn11 HF11))
                            case hz => have := HDL.out; simp; omega
                            go_roundw
                            case rel => exact ⟨i + 1, A11, n11, c11, done ++ [h], p5, by go_num, by omega, hp5l, HN12, HOW12, Lib.hid (by rw [List.length_append, HDL.out]; rfl), HBK12, by rw [HK2.out]; exact HRS⟩
                            case measure => simp [intOf]; omega
                          · have hge : 0 ≤ cc := by omega
                            have hdc : decide ((0 : Int) ≤ cc) = true := decide_eq_true hge
                            rw [hrt, decide_eq_false hneg, if_neg (by simp)] at HRS
                            have HY : Hid (∀ W, Mod [] w8 W → Calls Try.prog 45 #[ptr r, .bool true, .int .i64 52, .int .i64 (pos : Int)] W (StopP W r p 52 pos)) := Lib.hid (fun W hW => rdrBad_yes r p g xs p5 52 pos W (HRD.out W hW))
                            clear hrt
                            refine wp_regionE (Mod []) (by kernel_rfl) ?_
                            simp only [List.size_toArray, List.length_cons, List.length_nil, Nat.zero_add, Nat.reduceAdd]
                            refine wpAnyE_takeL (preMod _) 0 (v := ?_) rfl (by kernel_rfl) (by kernel_rfl) (by kernel_rfl) (fun _ _ _ h => h) (Or.inl ⟨by rfl, ?_⟩) ?_
                            rotate_left; (intro W hW; (try dsimp only at hW); go_simp; try with_reducible rfl)
                            (try simp only [Act.put, List.setIfInBounds_toArray, List.set_cons_zero, List.set_cons_succ])
                            refine wpAnyE_takeL (preMod _) 1 (v := ?_) rfl (by kernel_rfl) (by kernel_rfl) (by kernel_rfl) (fun _ _ _ h => h) (Or.inl ⟨by rfl, ?_⟩) ?_
                            rotate_left; (intro W hW; (try dsimp only at hW); go_simp; try with_reducible rfl)
                            (try simp only [Act.put, List.setIfInBounds_toArray, List.set_cons_zero, List.set_cons_succ])
                            refine wpAnyE_takeL (preMod _) 2 (v := ?_) rfl (by kernel_rfl) (by kernel_rfl) (by kernel_rfl) (fun _ _ _ h => h) (Or.inl ⟨by rfl, ?_⟩) ?_
                            rotate_left; (intro W hW; (try dsimp only at hW); go_simp; try with_reducible rfl)
                            (try simp only [Act.put, List.setIfInBounds_toArray, List.set_cons_zero, List.set_cons_succ])
                            refine wpAnyE_takeL (preMod _) 3 (v := ?_) rfl (by kernel_rfl) (by kernel_rfl) (by kernel_rfl) (fun _ _ _ h => h) (Or.inl ⟨by rfl, ?_⟩) ?_
                            rotate_left; (intro W hW; (try dsimp only at hW); go_simp; try with_reducible rfl)
                            (try simp only [Act.put, List.setIfInBounds_toArray, List.set_cons_zero, List.set_cons_succ])
                            refine wpAnyE_takeL (preMod _) 4 (v := ?_) rfl (by kernel_rfl) (by kernel_rfl) (by kernel_rfl) (fun _ _ _ h => h) (Or.inl ⟨by rfl, ?_⟩) ?_
                            rotate_left; (intro W hW; (try dsimp only at hW); go_simp; try with_reducible rfl)
                            (try simp only [Act.put, List.setIfInBounds_toArray, List.set_cons_zero, List.set_cons_succ])
                            refine wpAnyE_takeL (preMod _) 5 (v := ?_) rfl (by kernel_rfl) (by kernel_rfl) (by kernel_rfl) (fun _ _ _ h => h) (Or.inl ⟨by rfl, ?_⟩) ?_
                            rotate_left; (intro W hW; (try dsimp only at hW); (have hcw := HCQ.out W (hw0.trans hW); go_simp); try with_reducible rfl)
                            (try simp only [Act.put, List.setIfInBounds_toArray, List.set_cons_zero, List.set_cons_succ])
                            refine wpAnyE_takeL (preMod _) 6 (v := ?_) rfl (by kernel_rfl) (by kernel_rfl) (by kernel_rfl) (fun _ _ _ h => h) (Or.inl ⟨by rfl, ?_⟩) ?_
                            rotate_left; (intro W hW; (try dsimp only at hW); go_simp; try with_reducible rfl)
                            (try simp only [Act.put, List.setIfInBounds_toArray, List.set_cons_zero, List.set_cons_succ])
                            refine wpAnyE_takeL (preMod _) 7 (v := ?_) rfl (by kernel_rfl) (by kernel_rfl) (by kernel_rfl) (fun _ _ _ h => h) (Or.inl ⟨by rfl, ?_⟩) ?_
                            rotate_left; (intro W hW; (try dsimp only at hW); go_simp; try with_reducible rfl)
                            (try simp only [Act.put, List.setIfInBounds_toArray, List.set_cons_zero, List.set_cons_succ])
                            refine wpAnyE_takeL (preMod _) 8 (v := ?_) rfl (by kernel_rfl) (by kernel_rfl) (by kernel_rfl) (fun _ _ _ h => h) (Or.inl ⟨by rfl, ?_⟩) ?_
                            rotate_left; (intro W hW; (try dsimp only at hW); (go_simp; try rw [if_pos (by omega)]); try with_reducible rfl)
                            (try simp only [Act.put, List.setIfInBounds_toArray, List.set_cons_zero, List.set_cons_succ])
                            refine wpAnyE_takeL (preMod _) 9 (v := ?_) rfl (by kernel_rfl) (by kernel_rfl) (by kernel_rfl) (fun _ _ _ h => h) (Or.inl ⟨by rfl, ?_⟩) ?_
                            rotate_left; (intro W hW; (try dsimp only at hW); refine (run_load_cells rtHash (.tmp 67) (by rfl) (by rfl) (GHash.cells_length _) (HHA.out W (hw0.trans hW))).trans ?_; try with_reducible rfl)
                            (try simp only [Act.put, List.setIfInBounds_toArray, List.set_cons_zero, List.set_cons_succ])
                            refine wpAnyE_takeL (preMod _) 10 (v := ?_) rfl (by kernel_rfl) (by kernel_rfl) (by kernel_rfl) (fun _ _ _ h => h) (Or.inl ⟨by rfl, ?_⟩) ?_
                            rotate_left; (intro W hW; (try dsimp only at hW); refine (run_load_cells rtHash (.tmp 7) (by rfl) (by rfl) (GHash.cells_length _) (HHB.out W (hw0.trans hW))).trans ?_; try with_reducible rfl)
                            (try simp only [Act.put, List.setIfInBounds_toArray, List.set_cons_zero, List.set_cons_succ])
                            refine wpAnyE_takeL (preMod _) 14 (v := ?_) rfl (by kernel_rfl) (by kernel_rfl) (by kernel_rfl) (fun _ _ _ h => h) (Or.inl ⟨by rfl, ?_⟩) ?_
                            rotate_left; (intro W hW; (try dsimp only at hW); go_simp; try with_reducible rfl)
                            (try simp only [Act.put, List.setIfInBounds_toArray, List.set_cons_zero, List.set_cons_succ])
                            refine wpAnyE_ready (rs := [11]) (by kernel_rfl) (by simp) ?_
                            refine AllReadyE.consL rfl (fun K hK => ?_) AllReadyE.nil
                            rw [if_pos (by rfl)]
                            go_simp
                            go_at_call 50
                            refine (HS2.out _).mono ?_
                            rintro e' w9 ⟨rfl, hm9⟩
                            have hmE := hm9
                            have HM9 : Hid (Mod [] w8 w9) := Lib.hid (hw0.trans hm9)
                            go_wp2_with fail
                            refine hK.out _ _ (by first | exact hmE | exact Mod.refl _ _ | exact (Mod.refl _ _).alloc _) ?_
                            clear hK
                            (try simp only [Act.put, List.setIfInBounds_toArray, List.set_cons_zero, List.set_cons_succ])
                            refine wpAnyE_takeL (preMod _) 12 (v := ?_) rfl (by kernel_rfl) (by kernel_rfl) (by kernel_rfl) (fun _ _ _ h => h) (Or.inl ⟨by rfl, ?_⟩) ?_
                            rotate_left; (intro W hW; (try dsimp only at hW); go_simp; try with_reducible rfl)
                            (try simp only [Act.put, List.setIfInBounds_toArray, List.set_cons_zero, List.set_cons_succ])
                            refine wpAnyE_takeL (preMod _) 13 (v := ?_) rfl (by kernel_rfl) (by kernel_rfl) (by kernel_rfl) (fun _ _ _ h => h) (Or.inl ⟨by rfl, ?_⟩) ?_
                            rotate_left; (intro W hW; (try dsimp only at hW); go_simp; try with_reducible rfl)
                            (try simp only [Act.put, List.setIfInBounds_toArray, List.set_cons_zero, List.set_cons_succ])
                            refine wpAnyE_ready (rs := [15]) (by kernel_rfl) (by simp) ?_
                            refine AllReadyE.consL rfl (fun K hK => ?_) AllReadyE.nil
                            rw [if_pos (by rfl)]
                            go_simp
                            go_at_call 45
                            (with_reducible refine (HY.out w9 HM9.out).mono ?_)
                            rintro e' w10 ⟨q, rfl, hst⟩
                            exact ⟨rfl, NodeRxP.stop HRS.out (HN8.out.md.trans (HM9.out.mono (by simp))) ⟨q, rfl, hst⟩⟩
                    · have hii : ¬ ((i : Int) < (many : Int)) := by omega
                      have he : many - i = 0 := by omega
                      rw [he] at HRS
                      change Hid (res = K done pos) at HRS
                      rw [← HKT.out] at HRS
                      unfold rdTail at HRS
                      clear he HAT
                      go_wp2_with fail
                      have HGET := Lib.hid (opGet_any p g xs wr pos HN.out.rd.2.1 hpos (by omega))
                      have hopl := bl_ops pos (xs := xs)
                      refine HGET.out.mono ?_
                      intro e' w7 hp7
                      clear HGET c0 hrl hpl
                      cases hb : rdOps xs pos with
                      | bad why at_ =>
                        rw [hb] at hp7 HRS
                        change Hid (res = .bad why at_) at HRS
                        obtain ⟨q, rfl, hbad, hm7, hq7⟩ := hp7
                        have HBAD := Lib.hid hbad
                        have HM7 := Lib.hid hm7
                        have HRR : Hid (Blk w7 r 67 #[ptr p, .nilIface]) := Lib.hid (HN.out.rd.1.mod hm7 (by simpa using HN.out.rd.ne))
                        have HST := Lib.hid (stop_any r p q .nilIface w7 HRR.out)
                        have hrl := HN.out.rd.1.lt
                        clear hbad hm7 hb
                        unfold badV
                        go_wp2_with fail
                        refine HST.out.mono ?_
                        rintro e' w8 ⟨rfl, hr8, hm8⟩
                        exact ⟨rfl, NodeRxP.stop HRS.out HN.out.md (stopP HBAD.out HM7.out hq7 hr8 hm8 hrl)⟩
                      | ok ops p6 =>
                        rw [hb] at hp7 HRS
                        change Hid (res = if p6 < xs.length then .bad 23 p6 else .ok ⟨ai, cl, done, ops⟩ p6) at HRS
                        have hp6l : p6 ≤ xs.length := ((hopl hpos).2 ops p6 hb).2
                        obtain ⟨A7, n7, c7, rfl, hown7, hI7, hm7, hf7⟩ := hp7
                        have HN7 := Lib.hid (HN.out.read (HN.out.rd.step hI7 hm7) (hm7.mono (by simp)))
                        have HOW7 := Lib.hid (HOW.out.mod hm7 (fun b hb => by have := HBK.out b hb; have := HLT.out; simp; omega))
                        have HOP7 := Lib.hid hown7
                        have HBK7 : Hid (∀ b ∈ blks (.slice A7 n7 c7), w.heap.size ≤ b) := Lib.hid (fun b hb => Nat.le_trans HN.out.md.size (hf7 b hb))
                        clear hown7 hI7 hm7 hf7 hb hopl HN HOW hpos hii him
                        obtain ⟨d0, d1, d2, d3, _⟩ := HN7.out.nod.open_
                        have f3 := HN7.out.nod.frozen 3
                        go_upto_region 20 with fail
                        have hm8 : Mod [q3] w7 (w7.setCell ⟨q3, 3, none⟩ (.slice A7 n7 c7)) := (Mod.refl [q3] w7).setCell _ (by simp) _
                        have HN8 := Lib.hid (HN7.out.put (NodB.set3 (ov' := .slice A7 n7 c7) HN7.out.nod) hm8)
                        have HOW8 := Lib.hid (HOW7.out.mod hm8 (fun b hb h1 => own_ne HOW7.out HN7.out.nod (by decide) (by simp at h1; rw [← h1]; exact hb)))
                        have HOP8 := Lib.hid (HOP7.out.mod hm8 (fun b hb h1 => own_ne HOP7.out HN7.out.nod (by decide) (by simp at h1; rw [← h1]; exact hb)))
                        obtain ⟨w8, hw8⟩ : ∃ w8, w7.setCell ⟨q3, 3, none⟩ (.slice A7 n7 c7) = w8 := ⟨_, rfl⟩
                        rw [hw8] at HN8 HOW8 HOP8
                        rw [hw8]
                        clear hw8 hm8 HN7 HOW7 HOP7 d0 d1 d2 d3 f3
                        obtain ⟨c0, hrl, hpl⟩ := HN8.out.rd.cells
                        have HEND := Lib.hid (inEnd_any p g xs w8 p6 HN8.out.rd.2.1 hp6l)
                        go_wp2_with fail
                        refine HEND.out.mono ?_
                        intro e' w9 hp9
                        unfold EndP at hp9
                        clear HEND c0 hpl
                        by_cases hend : p6 < xs.length
                        · rw [if_pos hend] at hp9 HRS
                          obtain ⟨q, rfl, hbad, _, hm9, hq9⟩ := hp9
                          have HBAD := Lib.hid hbad
                          have HM9 := Lib.hid hm9
                          have HRR : Hid (Blk w9 r 67 #[ptr p, .nilIface]) := Lib.hid (HN8.out.rd.1.mod hm9 (by simpa using HN8.out.rd.ne))
                          have HST := Lib.hid (stop_any r p q .nilIface w9 HRR.out)
                          clear hbad hm9
                          unfold badV
                          go_wp2_with fail
                          refine HST.out.mono ?_
                          rintro e' w10 ⟨rfl, hr10, hm10⟩
                          exact ⟨rfl, NodeRxP.stop HRS.out HN8.out.md (stopP HBAD.out HM9.out hq9 hr10 hm10 hrl)⟩
                        · rw [if_neg hend] at hp9 HRS
                          obtain ⟨rfl, hI9, hm9⟩ := hp9
                          have HN9 := Lib.hid (HN8.out.read (HN8.out.rd.step hI9 hm9) (hm9.mono (by simp)))
                          have HOW9 := Lib.hid (HOW8.out.mod hm9 (fun b hb => by have := HBK.out b hb; have := HLT.out; simp; omega))
                          have HOP9 := Lib.hid (HOP8.out.mod hm9 (fun b hb => by have := HBK7.out b hb; have := HLT.out; simp; omega))
                          clear hI9 hm9 HN8 HOW8 HOP8
                          obtain ⟨_, _, _, _, HC⟩ := HN9.out.nod.open_
                          have HRB : Hid (Blk w9 q2 26 (nodeL 0 0 (.slice none 0 0) (.slice none 0 0)).toArray) := Lib.hid HN9.out.res
                          go_wp2_with (first | ((with_reducible refine wpList_load_node _ rfl ?hgd HC.out ?hx ?_); (case hgd => exact rfl); (case hx => exact rfl)) | ((with_reducible refine wpList_store_node (au := (ai : Int)) (cl := (cl : Int)) (pv := .slice A n c) (ov := .slice A7 n7 c7) _ _ rfl ?hgd ?hx ?hy HRB.out ?hold ?hp ?hv ?_); (case hgd => exact rfl); (case hx => exact rfl); (case hy => exact rfl); (case hold => exact rfl); (case hp => exact rfl); (case hv => exact rfl); intro w10 hb10 hm10; have HB10 := Lib.hid hb10; have HM10 := Lib.hid hm10; clear hb10 hm10))
                          refine bodyPost_ret (results_row rtNode rfl rfl HB10.out rfl) rfl ?_
                          rw [HRS.out]
                          refine ⟨_, _, rfl, HOW9.out.mod HM10.out (fun b hb h1 => own_ne HOW9.out HN9.out.res (by decide) (by simp at h1; rw [← h1]; exact hb)), HOP9.out.mod HM10.out (fun b hb h1 => own_ne HOP9.out HN9.out.res (by decide) (by simp at h1; rw [← h1]; exact hb)), HBK.out, HBK7.out, HN9.out.md.then HM10.out (by have := HN9.out.b2; simp; omega)⟩
                · rw [if_neg hd] at HRES
                  have hcb : clockBad (cl : Int) many = true := HCB0.out.2 (by rw [show decide ((cl : Int) = 1) = decide (cl = 1) by congr 1; simp; omega]; exact hd)
                  rw [hcb]
                  have HY := Lib.hid (rdrBad_yes r p g xs p4 51 2 w6 HN6.out.rd)
                  refine HY.out.mono ?_
                  rintro e' w7 ⟨q, rfl, hst⟩
                  exact ⟨rfl, NodeRxP.stop HRES.out HN6.out.md ⟨q, rfl, hst⟩⟩
        · rw [if_neg ha] at HRES
          obtain ⟨d0, d1, d2, d3, _⟩ := HNS.out.nod.open_
          have HY := Lib.hid (rdrBad_yes r p g xs p2 50 1 w3 HNS.out.rd)
          by_cases hx1 : (ai : Int) < 1
          · go_wp2_with fail
            refine HY.out.mono ?_
            rintro e' w4 ⟨q, rfl, hst⟩
            exact ⟨rfl, NodeRxP.stop HRES.out HNS.out.md ⟨q, rfl, hst⟩⟩
          · have hx2 : (8 : Int) < (ai : Int) := by omega
            go_wp2_with fail
            refine HY.out.mono ?_
            rintro e' w4 ⟨q, rfl, hst⟩
            exact ⟨rfl, NodeRxP.stop HRES.out HNS.out.md ⟨q, rfl, hst⟩⟩
    · rw [if_neg hf] at HRES
      have hfi : ((form.toNat : Int) != 1) = true := by
        rw [bne_iff_ne]
        intro h
        exact hf (UInt8.toNat_inj.1 (by simp; omega))
      have HY := Lib.hid (rdrBad_yes r p g xs p1 5 0 w1 hR1)
      have HM1 := Lib.hid hm1
      clear hR1 hm1
      go_wp2_with fail
      refine HY.out.mono ?_
      rintro e' w2 ⟨q, rfl, hst⟩
      exact ⟨rfl, NodeRxP.stop HRES.out (((Mod.refl [p, r] w).alloc _).trans HM1.out) ⟨q, rfl, hst⟩⟩
end Go.Proofs.Ytlpjeckhejbkkaa
