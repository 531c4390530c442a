import Derived.Test.YtlpjeckhejbkkaaNRd3
set_option linter.unusedVariables false
set_option linter.unusedSimpArgs false
set_option maxRecDepth 20000
set_option maxHeartbeats 1600000
namespace Go.Proofs.Ytlpjeckhejbkkaa
open Go.RowKit

def DecP (w : World) (res : Rd GNode) (e' : Ending) (w' : World) : Prop :=
  match res with
  | .ok n _ => ∃ pv ov, e' = .returned (.tuple #[nodeV n.author n.clock pv ov, .nilIface]) ∧ OwnH w' pv n.parents ∧ OwnO w' ov n.ops ∧ (∀ b ∈ blks pv, w.heap.size ≤ b) ∧ (∀ b ∈ blks ov, w.heap.size ≤ b) ∧ Mod [] w w'
  | .bad why at_ => ∃ q, e' = .returned (.tuple #[nodeV 0 0 (.slice none 0 0) (.slice none 0 0), badV q]) ∧ BadAt w' q why at_ ∧ Mod [] w w' ∧ w.heap.size ≤ q
theorem catch_panicking (a r q q2 q3 : Nat) (x : Value) (au cl : Int) (pv ov : Value) (older : List PanicEntry) (w : World) (ha : Blk w a 63 #[ptr r]) (hr : w.cell? ⟨r, 1, none⟩ = some (badV q)) (h2 : NodB w q2 au cl pv ov) (h3 : Blk w q3 32 #[x]) :
    CallsD Try.prog 27 #[ptr a, ptr q2, ptr q3] (.panicking ({ v := badV q, recovered := false } :: older)) w fun e u' w' =>
      e = .returned (.tuple #[]) ∧ u' = .panicking ({ v := badV q, recovered := true } :: older) ∧ NodB w' q2 0 0 (.slice none 0 0) (.slice none 0 0) ∧ Blk w' q3 32 #[badV q] ∧ Mod [q2, q3] w w' := by
  have c0 := ha.cell 0
  have HR := Lib.hid hr
  unfold badV at hr ⊢
  have H2 := Lib.hid h2
  have H3 := Lib.hid h3
  have c3 := h3.cell 0
  have f3 := h3.frozen 0
  clear h2 h3
  refine callsD_of_wpS Try.func27 rfl fun c₀ cs hu => ?_
  apply wpS_seq
  apply wpS_region
  simp [wpOpsS, go_sem, recoverD, hu, Try.ntmps27, Exit.thenS]
  refine wpS_cond (t := true) (by simp [Act.eval, Array.replicate]) ?_
  simp only [if_true]
  refine wpS_of_wp ?_
  have ht : (#[ptr a, ptr q2, ptr q3] ++ ((Array.replicate 7 undef).setIfInBounds 0 (.iface 60 (ptr q))).setIfInBounds 1 (.bool true) : Array Value) = #[ptr a, ptr q2, ptr q3, .iface 60 (ptr q), .bool true, undef, undef, undef, undef, undef] := rfl
  rw [ht]
  clear ht
  have HB2 : Hid (Blk w q2 26 (nodeL au cl pv ov).toArray) := H2
  have hne : q3 ≠ q2 := Blk.ne_ H3.out H2.out (by decide)
  have HNE := Lib.hid hne
  clear hne c3 f3
  go_wp2_with (first | ((with_reducible refine wpList_store_node (au := 0) (cl := 0) (pv := .slice none 0 0) (ov := .slice none 0 0) _ _ rfl ?hgd ?hx ?hy HB2.out ?hold ?hp ?hv ?_); (case hgd => exact rfl); (case hx => exact rfl); (case hy => exact rfl); (case hold => exact rfl); (case hp => exact rfl); (case hv => exact rfl); intro w1 hb1 hm1; have HB1 := Lib.hid hb1; have HM1 := Lib.hid hm1; have h31 : Blk w1 q3 32 #[x] := H3.out.mod hm1 (by have := HNE.out; simpa using this); have HB3 := Lib.hid h31; have c3 := h31.cell 0; have f3 := h31.frozen 0; clear hb1 hm1 h31))
  simp only [bodyPostS]
  refine ⟨trivial, .panicking ({ v := .iface 60 (ptr q), recovered := true } :: older), ?_, .tuple #[], by simp [results, Try.results27, go_sem], rfl, rfl, ?_, ?_, ?_⟩
  · cases c₀; simp_all
  · exact HB1.out.mod ((Mod.refl [q3] w1).setCell ⟨q3, 0, none⟩ (by simp) _) (by have := HNE.out; simp; omega)
  · exact HB3.out.set_ 0 _
  · exact (HM1.out.mono (by simp)).trans (((Mod.refl [q2, q3] w1).setCell ⟨q3, 0, none⟩ (by simp) _))
theorem catch_idle (a q2 q3 : Nat) (w : World) :
    CallsD Try.prog 27 #[ptr a, ptr q2, ptr q3] .returning w fun e u' w' => e = .returned (.tuple #[]) ∧ u' = .returning ∧ w' = w := by
  refine callsD_of_wpS Try.func27 rfl fun c₀ cs hu => ?_
  apply wpS_seq
  apply wpS_region
  simp [wpOpsS, go_sem, recoverD, hu, Try.ntmps27, Exit.thenS]
  refine wpS_cond (t := false) (by simp [Act.eval, Array.replicate]) ?_
  simp only [Bool.false_eq_true, if_false]
  refine wpS_of_wp (wp_skip ?_)
  cases c₀
  simp_all [bodyPostS, results, Try.results27]
theorem results_row_cell {P : Program} {fn : Func} {p q : Tmp} {ty tz : TypeId} {sz : Nat} (E : RowT P ty sz) (h : fn.results = #[.cell p ty, .cell q tz]) {tmps : Array Value} {w : World} {g k : Nat} {te : TypeId} {cs : Array Value} {v : Value}
    (hp : tmps.getD p undef = .pointer (some ⟨g, 0, none⟩)) (hb : Blk w g te cs) (hsz : cs.size = sz) (hq : tmps.getD q undef = .pointer (some ⟨k, 0, none⟩)) (hv : (loadVar tz ⟨k, 0, none⟩).run P w = .ok v w) :
    (results fn tmps).run P w = .ok (.tuple #[.agg cs, v]) w := by
  have hp' : tmps[p]?.getD undef = .pointer (some ⟨g, 0, none⟩) := by simpa using hp
  have hq' : tmps[q]?.getD undef = .pointer (some ⟨k, 0, none⟩) := by simpa using hq
  simp [results, h, hp', hq', asAddr, run_load_blk E hb hsz, hv]
theorem run_load_err {w : World} {k : Nat} {v : Value} (hc : w.cell? ⟨k, 0, none⟩ = some v) : (loadVar 32 ⟨k, 0, none⟩).run Try.prog w = .ok v w := by
  simp [loadVar, isAgg, run_underlying Try.underlying32, hc]
theorem decode_any (xs : Bytes) (g : Nat) (sv : Value) (w : World) (hs : BS w g sv xs) :
    Calls Try.prog 11 #[sv] w (DecP w (rdNode xs)) := by
  obtain ⟨A, cap, rfl, hc1, hc2⟩ := hs.val
  unfold maxLen at hc2
  have HS := Lib.hid hs; clear hs
  obtain ⟨res, hres⟩ : ∃ res, rdNode xs = res := ⟨_, rfl⟩
  have HRES := Lib.hid hres.symm
  rw [hres]
  rw [rdNode_E] at HRES
  clear hres
  have hmf : ∀ (fn : Fn) (first cap : Array Value) (w : World), (Instr.makeFunc fn first cap).run Try.prog w = .ok (.func fn first cap) w := fun _ _ _ _ => rfl
  have hb2 : Blk ((w.alloc (.cells #[.int .i64 0, .int .i64 0, .slice none 0 0, .slice none 0 0] 26)).alloc (.cells #[.nilIface] 32)) w.heap.size 26 (nodeL 0 0 (.slice none 0 0) (.slice none 0 0)).toArray := (Blk.new w _ _).alloc _
  have hb3 : Blk ((w.alloc (.cells #[.int .i64 0, .int .i64 0, .slice none 0 0, .slice none 0 0] 26)).alloc (.cells #[.nilIface] 32)) (w.heap.size + 1) 32 #[.nilIface] := by
    have := Blk.new (w.alloc (.cells #[.int .i64 0, .int .i64 0, .slice none 0 0, .slice none 0 0] 26)) 32 #[.nilIface]
    simpa using this
  have hm0 : Mod [] w ((w.alloc (.cells #[.int .i64 0, .int .i64 0, .slice none 0 0, .slice none 0 0] 26)).alloc (.cells #[.nilIface] 32)) := ((Mod.refl [] w).alloc _).alloc _
  have hsz0 : ((w.alloc (.cells #[.int .i64 0, .int .i64 0, .slice none 0 0, .slice none 0 0] 26)).alloc (.cells #[.nilIface] 32)).heap.size = w.heap.size + 2 := by simp
  obtain ⟨w0, hw0⟩ : ∃ w0, (w.alloc (.cells #[.int .i64 0, .int .i64 0, .slice none 0 0, .slice none 0 0] 26)).alloc (.cells #[.nilIface] 32) = w0 := ⟨_, rfl⟩
  rw [hw0] at hb2 hb3 hm0 hsz0
  obtain ⟨q2, hq2⟩ : ∃ q2, w.heap.size = q2 := ⟨_, rfl⟩
  obtain ⟨q3, hq3⟩ : ∃ q3, q2 + 1 = q3 := ⟨_, rfl⟩
  rw [hq2] at hb2
  rw [hq2, hq3] at hb3
  have HB2 := Lib.hid hb2
  have HB3 := Lib.hid hb3
  have HM0 := Lib.hid hm0
  have HW0 := Lib.hid hw0
  have HQ2 := Lib.hid hq2
  have HQ3 := Lib.hid hq3
  have HSZ := Lib.hid hsz0
  clear hb2 hb3 hm0 hw0 hq2 hq3 hsz0
  by_cases hbig : 1048576 < xs.length
  · rw [if_pos hbig] at HRES
    have hbi : (1048576 : Int) < xs.length := by omega
    go_enter_defers Try.func11, Try.ntmps11
    go_upto_region 2 with fail
    rw [HW0.out, HQ2.out, HQ3.out]
    clear HW0
    go_wp2_with ((with_reducible refine wpList_store_node (au := 0) (cl := 0) (pv := .slice none 0 0) (ov := .slice none 0 0) _ _ rfl ?hgd ?hx ?hy (HB2.out.alloc _) ?hold ?hp ?hv ?_); (case hgd => exact rfl); (case hx => exact rfl); (case hy => exact rfl); (case hold => exact rfl); (case hp => exact rfl); (case hv => exact rfl); intro w1 hb1 hm1; have HB1 := Lib.hid hb1; have HM1 : Hid (Mod [q2] w0 w1) := Lib.hid (((Mod.refl [q2] w0).alloc _).trans hm1); have HBD : Hid (BadAt w1 w0.heap.size 4 1048576) := Lib.hid (Blk.mod (Blk.new w0 _ _) hm1 (by have := HB2.out.lt; simp; omega)); have h31 : Blk w1 q3 32 #[.nilIface] := HB3.out.mod HM1.out (by have := HQ3.out; simp; omega); have HB31 := Lib.hid h31; have c3 := h31.cell 0; have f3 := h31.frozen 0; clear hb1 hm1 h31)
    refine ⟨_, results_row_cell rtNode rfl rfl (HB1.out.mod ((Mod.refl [q3] w1).setCell ⟨q3, 0, none⟩ (by simp) _) (by have := HQ3.out; simp; omega)) rfl rfl (run_load_err ((HB31.out.set_ 0 _).cell 0)), ?_⟩
    rw [HRES.out]
    refine ⟨w0.heap.size, rfl, Blk.mod HBD.out ((Mod.refl [q3] w1).setCell ⟨q3, 0, none⟩ (by simp) _) (by have := HB3.out.lt; simp; omega), ?_, by have := HSZ.out; omega⟩
    exact (HM0.out.then HM1.out (by have := HQ2.out; simp; omega)).then ((Mod.refl [q3] w1).setCell ⟨q3, 0, none⟩ (by simp) _) (by have := HQ2.out; have := HQ3.out; simp; omega)
  · rw [if_neg hbig] at HRES
    have hbi : ¬ ((1048576 : Int) < xs.length) := by omega
    go_enter_defers Try.func11, Try.ntmps11
    go_upto_region 3 with fail
    rw [HW0.out, HQ2.out, HQ3.out]
    clear HW0
    go_wp2_with fail
    refine (newIn_any _ g xs w0 (HS.out.mod HM0.out (by simp)) (by omega)).mono ?_
    rintro e' w1 ⟨p, gi, rfl, hI1, hm1, hp1, hgi⟩
    have HI1 := Lib.hid hI1
    have HM1 := Lib.hid hm1
    have HP1 := Lib.hid hp1
    have HB21 : Hid (Blk w1 q2 26 (nodeL 0 0 (.slice none 0 0) (.slice none 0 0)).toArray) := Lib.hid (HB2.out.mod hm1 (by simp))
    have HB31 : Hid (Blk w1 q3 32 #[.nilIface]) := Lib.hid (HB3.out.mod hm1 (by simp))
    have HGI : Hid (0 < xs.length → gi < w1.heap.size) := Lib.hid (fun h0 => by
      obtain ⟨v, _, hr, _⟩ := hI1
      obtain ⟨_, _, _, _, _, hl', _⟩ := hr.at_ h0
      exact hl')
    clear hI1 hm1 hp1 hgi HB2 HB3
    go_wp2_with fail
    obtain ⟨r, hr⟩ : ∃ r, w1.heap.size = r := ⟨_, rfl⟩
    have hb4 : Blk ((w1.alloc (.cells #[ptr p, .nilIface] 67)).alloc (.cells #[ptr r] 63)) r 67 #[ptr p, .nilIface] := by rw [← hr]; exact (Blk.new w1 _ _).alloc _
    have hb5 : Blk ((w1.alloc (.cells #[ptr p, .nilIface] 67)).alloc (.cells #[ptr r] 63)) (r + 1) 63 #[ptr r] := by
      have := Blk.new (w1.alloc (.cells #[ptr p, .nilIface] 67)) 63 #[ptr r]
      simpa [hr] using this
    have hm2 : Mod [] w1 ((w1.alloc (.cells #[ptr p, .nilIface] 67)).alloc (.cells #[ptr r] 63)) := ((Mod.refl [] w1).alloc _).alloc _
    rw [hr]
    obtain ⟨w2, hw2⟩ : ∃ w2, (w1.alloc (.cells #[ptr p, .nilIface] 67)).alloc (.cells #[ptr r] 63) = w2 := ⟨_, rfl⟩
    rw [hw2] at hb4 hb5 hm2
    rw [hw2]
    have HRD : Hid (RdrB w2 r p gi xs 0) := Lib.hid ⟨hb4, HI1.out.mod hm2 (by simp) (by simp), fun h0 => by have := HGI.out h0; omega⟩
    have HA : Hid (Blk w2 (r + 1) 63 #[ptr r]) := Lib.hid hb5
    have HB22 : Hid (Blk w2 q2 26 (nodeL 0 0 (.slice none 0 0) (.slice none 0 0)).toArray) := Lib.hid (HB21.out.mod hm2 (by simp))
    have HB32 : Hid (Blk w2 q3 32 #[.nilIface]) := Lib.hid (HB31.out.mod hm2 (by simp))
    have hpl := HI1.out.lt
    have hsz1 := HM1.out.size
    have HK : Hid (w.heap.size ≤ q2 ∧ q2 < q3 ∧ q3 < p ∧ p < r ∧ w.heap.size ≤ w2.heap.size) := Lib.hid (by have := HQ2.out; have := HQ3.out; have := HSZ.out; have := HP1.out; have := HM0.out.size; have := hm2.size; omega)
    have HM2 := Lib.hid ((HM0.out.trans HM1.out).trans hm2)
    clear hb4 hb5 hm2 hw2 hr HI1 HM1 HM0 HP1 HB21 HB31 HGI HQ2 HQ3 HSZ hpl hsz1
    have HND := Lib.hid (rdrNode_any r p gi xs w2 HRD.out (by omega))
    rw [← HRES.out] at HND
    clear HRES
    refine HND.out.mono ?_
    intro e' w3 hp3
    clear HND
    cases res with
    | bad why at_ =>
      obtain ⟨q, rfl, hbad, hr3, hm3, hq3⟩ := hp3
      have HK2 := HK.out
      have h2 : NodB w3 q2 0 0 (.slice none 0 0) (.slice none 0 0) := Blk.mod HB22.out hm3 (by simp; omega)
      have h3 : Blk w3 q3 32 #[.nilIface] := HB32.out.mod hm3 (by simp; omega)
      have ha : Blk w3 (r + 1) 63 #[ptr r] := HA.out.mod hm3 (by simp; omega)
      have hlt := ha.lt
      refine leaves_cons (f := 27) (args := #[ptr (r + 1), ptr q2, ptr q3]) (by simp) (by simp [go_sem]) ?_
      refine (catch_panicking (r + 1) r q q2 q3 .nilIface 0 0 (.slice none 0 0) (.slice none 0 0) [] w3 ha (hr3.cell 1) h2 h3).mono ?_
      rintro e u' w4 ⟨rfl, rfl, hn4, he4, hm4⟩
      refine ⟨_, results_row_cell rtNode rfl rfl hn4 rfl rfl (run_load_err (he4.cell 0)), q, rfl, Blk.mod hbad hm4 ?_, (HM2.out.then hm3 (by simp; omega)).then hm4 (by simp; omega), by omega⟩
      have e2 := HB22.out.lt
      have e3 := HB32.out.lt
      simp
      omega
    | ok n pos =>
      obtain ⟨pv, ov, rfl, hown1, hown2, hf1, hf2, hm3⟩ := hp3
      have HK2 := HK.out
      obtain ⟨pA, pc, rfl, _, _⟩ := hown1.val
      obtain ⟨oA, oc, rfl, _, _⟩ := hown2.val
      have HB23 : Hid (Blk w3 q2 26 (nodeL 0 0 (.slice none 0 0) (.slice none 0 0)).toArray) := Lib.hid (HB22.out.mod hm3 (by simp; omega))
      have HB33 : Hid (Blk w3 q3 32 #[.nilIface]) := Lib.hid (HB32.out.mod hm3 (by simp; omega))
      have e2 := HB22.out.lt
      have e3 := HB32.out.lt
      have HN3 : Hid (q3 ≠ q2) := Lib.hid (by omega)
      have HO1 := Lib.hid hown1
      have HO2 := Lib.hid hown2
      have HF1 : Hid (∀ b ∈ blks (.slice pA n.parents.length pc), w.heap.size ≤ b ∧ b ≠ q2 ∧ b ≠ q3) := Lib.hid (fun b hb => by have := hf1 b hb; omega)
      have HF2 : Hid (∀ b ∈ blks (.slice oA n.ops.length oc), w.heap.size ≤ b ∧ b ≠ q2 ∧ b ≠ q3) := Lib.hid (fun b hb => by have := hf2 b hb; omega)
      have HM3 : Hid (Mod [] w w3) := Lib.hid (HM2.out.then hm3 (by simp; omega))
      clear hown1 hown2 hf1 hf2 hm3 HK2 HB22 HB32 HM2 HRD HA e2 e3
      obtain ⟨au, cl, ps, os⟩ := n
      dsimp only at *
      go_wp2_with ((with_reducible refine wpList_store_node (au := au) (cl := cl) (pv := .slice pA ps.length pc) (ov := .slice oA os.length oc) _ _ rfl ?hgd ?hx ?hy HB23.out ?hold ?hp ?hv ?_); (case hgd => exact rfl); (case hx => exact rfl); (case hy => exact rfl); (case hold => exact rfl); (case hp => exact rfl); (case hv => exact rfl); intro w4 hb4 hm4; have HB4 := Lib.hid hb4; have HM4 := Lib.hid hm4; have h34 : Blk w4 q3 32 #[.nilIface] := HB33.out.mod hm4 (by have := HN3.out; simp; omega); have HB34 := Lib.hid h34; have c3 := h34.cell 0; have f3 := h34.frozen 0; clear hb4 hm4 h34)
      refine leaves_cons (f := 27) (args := #[ptr (r + 1), ptr q2, ptr q3]) (by simp) (by simp [go_sem]) ?_
      refine (catch_idle (r + 1) q2 q3 _).mono ?_
      rintro e u' w5 ⟨rfl, rfl, rfl⟩
      have hm5 : Mod [q3] w4 (w4.setCell ⟨q3, 0, none⟩ .nilIface) := (Mod.refl [q3] w4).setCell ⟨q3, 0, none⟩ (by simp) _
      refine ⟨_, results_row_cell rtNode rfl rfl (HB4.out.mod hm5 (by have := HN3.out; simp; omega)) rfl rfl (run_load_err ((HB34.out.set_ 0 _).cell 0)), _, _, rfl, ?_, ?_, fun b hb => (HF1.out b hb).1, fun b hb => (HF2.out b hb).1, ?_⟩
      · exact (HO1.out.mod HM4.out (fun b hb => by have := HF1.out b hb; simp; omega)).mod hm5 (fun b hb => by have := HF1.out b hb; simp; omega)
      · exact (HO2.out.mod HM4.out (fun b hb => by have := HF2.out b hb; simp; omega)).mod hm5 (fun b hb => by have := HF2.out b hb; simp; omega)
      · exact (HM3.out.then HM4.out (by have := HK.out; simp; omega)).then hm5 (by have := HK.out; simp; omega)
end Go.Proofs.Ytlpjeckhejbkkaa
