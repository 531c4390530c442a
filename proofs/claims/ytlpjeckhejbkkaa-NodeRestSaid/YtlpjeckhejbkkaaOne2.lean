import Derived.Test.YtlpjeckhejbkkaaOne
set_option linter.unusedVariables false
set_option linter.unusedSimpArgs false
set_option maxRecDepth 20000
set_option maxHeartbeats 800000
namespace Go.Proofs.Ytlpjeckhejbkkaa
open Go.RowKit

/-- the state while the fields of one operation are read -/
def RO (w : World) (p g : Nat) (xs : Bytes) (z q gl : Nat) (vl : Value) (l : List GOp) (g1 : Nat) (v1 : Value) (L : List Fld) (o : GOp) (pos : Nat) (wr : World) : Prop :=
  InB wr p g xs (pos : Int) .nilIface ∧ OpV wr q o ∧ OpV wr z GOp.zero ∧ OS wr gl vl l ∧ FS wr g1 v1 L ∧ Mod [p] w wr
theorem RO.mod {w : World} {p g : Nat} {xs : Bytes} {z q gl : Nat} {vl : Value} {l : List GOp} {g1 : Nat} {v1 : Value} {L : List Fld} {o : GOp} {pos : Nat} {wr w' : World} (h : RO w p g xs z q gl vl l g1 v1 L o pos wr) (hm : Mod [] wr w') : RO w p g xs z q gl vl l g1 v1 L o pos w' := by
  obtain ⟨h1, h2, h3, h4, h5, h6⟩ := h
  exact ⟨h1.mod hm (by simp) (by simp), h2.mod hm (by simp), h3.mod hm (by simp), h4.mod hm (by simp), h5.mod hm (by simp), h6.trans (hm.mono (by simp))⟩
/-- how the blocks lie -/
structure ROG (w : World) (p g : Nat) (xs : Bytes) (z q gl : Nat) (l : List GOp) (g1 : Nat) (L : List Fld) : Prop where
  pw : p < w.heap.size
  zw : w.heap.size ≤ z
  qw : w.heap.size ≤ q
  zq : z ≠ q
  gq : 0 < xs.length → g ≠ q
  lp : 0 < l.length → gl ≠ p
  lw : 0 < l.length → gl < w.heap.size
  g1w : 0 < L.length → w.heap.size ≤ g1
  g1q : 0 < L.length → g1 ≠ q
theorem RO.read {w : World} {p g : Nat} {xs : Bytes} {z q gl : Nat} {vl : Value} {l : List GOp} {g1 : Nat} {v1 : Value} {L : List Fld} {o o' : GOp} {pos pos' : Nat} {wr w' : World} (h : RO w p g xs z q gl vl l g1 v1 L o pos wr) (G : ROG w p g xs z q gl l g1 L)
    (h1 : InB w' p g xs (pos' : Int) .nilIface) (h2 : OpV w' q o') (hm : Mod [p, q] wr w') : RO w p g xs z q gl vl l g1 v1 L o' pos' w' := by
  obtain ⟨k1, k2, k3, k4, k5, k6⟩ := h
  have e1 := G.pw
  have e2 := G.zw
  have e3 := G.qw
  refine ⟨h1, h2, k3.mod hm (by have := G.zq; simp; omega), k4.mod hm (fun h0 => by have := G.lp h0; have := G.lw h0; simp; omega), k5.mod hm (fun h0 => by have := G.g1w h0; have := G.g1q h0; simp; omega), k6.then hm (by simp; omega)⟩
def OneP (w : World) (p g : Nat) (xs : Bytes) (r : Rd GOp) (e' : Ending) (w' : World) : Prop :=
  match r with
  | .ok o pos => e' = .returned (.tuple #[o.val, .nilIface]) ∧ InB w' p g xs pos .nilIface ∧ Mod [p] w w'
  | .bad why at_ => ∃ b, e' = .returned (.tuple #[GOp.zero.val, badV b]) ∧ BadAt w' b why at_ ∧ Mod [p] w w' ∧ w.heap.size ≤ b
theorem opOne_any (l : List GOp) (gl : Nat) (vl : Value) (p g : Nat) (xs : Bytes) (w : World) (n0 : Nat) (hI : InB w p g xs n0 .nilIface) (hn : n0 ≤ xs.length) (hz : xs.length ≤ 140737488355328) (hs : OS w gl vl l) (hlp : 0 < l.length → gl ≠ p) :
    Calls Try.prog 68 #[ptr p, vl] w (OneP w p g xs (rdOp xs n0 l)) := by
  obtain ⟨A, cap, rfl, _, _⟩ := hs.val
  have HS := Lib.hid hs; clear hs
  have HI := Lib.hid hI; clear hI
  have HN0 := Lib.hid hn; clear hn
  have HR : Hid (rdOp xs n0 l = _) := Lib.hid (rdOp_eq xs n0 l)
  have HZ := Lib.hid hz; clear hz
  have HI1 := Lib.hid HI.out
  have hpl := HI.out.lt
  have HGL : Hid (0 < l.length → gl < w.heap.size) := Lib.hid (fun h0 => by obtain ⟨_, _, _, _, _, hl', _⟩ := HS.out.at_ h0; exact hl')
  go_enter Try.func68, Try.ntmps68
  go_wp2_with (((with_reducible refine wpList_alloc_op rfl ?hgd ?_); (case hgd => exact rfl); intro z w0 hz0 hm0 hz1 hz2); have HZ0 := Lib.hid hz0; have HM0 := Lib.hid hm0; clear hz0 hm0)
  refine (at_any p g xs w0 n0 _ (HI.out.mod HM0.out (by simp) (by simp))).mono ?_
  rintro e' w1 ⟨rfl, rfl⟩
  go_wp2_with fail
  have hbyte := inByte_any p g xs w0 n0 (HI.out.mod HM0.out (by simp) (by simp)) HN0.out
  have HB := Lib.hid hbyte; clear hbyte
  have HBB : Hid (∀ k p1, rdByte xs n0 = .ok k p1 → p1 ≤ xs.length) := Lib.hid (fun k p1 h => by unfold rdByte at h; split at h <;> cases h; omega)
  generalize rdByte xs n0 = r1 at HB HR HBB
  refine HB.out.mono ?_
  cases r1 with
  | bad why at_ =>
    rintro e' w2 ⟨b, rfl, hb, _, hm2, hbl⟩
    have HB2 := Lib.hid hb
    have HM2 := Lib.hid hm2
    have HZ2 : Hid (OpV w2 z GOp.zero) := Lib.hid (HZ0.out.mod hm2 (by simp; omega))
    unfold badV
    clear hb hm2
    go_wp2_with (((with_reducible refine wpList_store_opV (o := GOp.zero) _ _ rfl ?hgd ?hx ?hy HZ2.out ?_); (case hgd => exact rfl); (case hx => exact rfl); (case hy => exact rfl)); intro w3 hv3 hm3)
    refine bodyPost_ret (results_row_tmp rtOp rfl rfl hv3 (by simp [GOp.cells_length])) rfl ?_
    rw [HR.out]
    have hbz : b ≠ z := by have := hz2; omega
    have := HM0.out.size
    exact ⟨b, rfl, Blk.mod HB2.out hm3 (by simpa using hbz), ((HM0.out.mono (by simp)).trans HM2.out).then hm3 (by simp; omega), by omega⟩
  | ok k p1 =>
    rintro e' w2 ⟨rfl, hI2, hm2⟩
    have HI2 := Lib.hid hI2
    have HM2 : Hid (Mod [p] w w2) := Lib.hid ((HM0.out.mono (by simp)).trans hm2)
    have HZ2 : Hid (OpV w2 z GOp.zero) := Lib.hid (HZ0.out.mod hm2 (by simp; omega))
    have HS2 : Hid (OS w2 gl _ l) := Lib.hid (HS.out.mod HM2.out (by simpa using hlp))
    have hp1 := HBB.out k p1 rfl
    clear hI2 hm2 HB HBB HI HS HM0 HZ0
    have hk8 : ((k.toNat : Int)) ≤ 255 := by have := k.toNat_lt; omega
    by_cases hkn : known (k.toNat : Int) = true
    · go_wp2_with (first | (((with_reducible refine wpList_alloc_op rfl ?hgd ?_); (case hgd => exact rfl); intro q w3 hq3 hm3 hq1 hq2); have HQ3 := Lib.hid hq3; have HM3 := Lib.hid hm3; clear hq3 hm3) | (((with_reducible refine wpList_store_opV (o := key0 k ⟨#[]⟩) _ _ rfl ?hgd ?hx ?hy HQ3.out ?_); (case hgd => exact rfl); (case hx => exact rfl); (case hy => exact rfl)); intro w4 hv4 hm4; have HV4 := Lib.hid hv4; have HM4 := Lib.hid (HM3.out.then (T := [q]) hm4 (by simp; omega)); clear hv4 hm4; obtain ⟨c0, c1, c2, c3, c36, _, _, _⟩ := HV4.out.open_; dsimp only [key0] at c0 c1 c2 c3 c36; have f1 := HV4.out.frozen 1) | (go_at_call 74; refine (known_any _ _).mono ?_; rintro e' w5 ⟨rfl, rfl⟩))
      have hpq : q ≠ p := by have := HM2.out.size; omega
      have HI4 : Hid (InB w4 p g xs (p1 : Int) .nilIface) := Lib.hid (HI2.out.mod HM4.out (by simp) (by simp))
      have HZ4 : Hid (OpV w4 z GOp.zero) := Lib.hid (HZ2.out.mod HM4.out (by simp))
      have HS4 : Hid (OS w4 gl _ l) := Lib.hid (HS2.out.mod HM4.out (by simp))
      have HM5 : Hid (Mod [p] w w4) := Lib.hid (HM2.out.trans (HM4.out.mono (by simp)))
      have htext := inText_any p g xs w4 p1 HI4.out hp1 HZ.out
      have HT := Lib.hid htext; clear htext
      have HTP : Hid (∀ s p2, rdText xs p1 = .ok s p2 → p2 ≤ xs.length) := Lib.hid (fun s p2 h => (rdText_ok h hp1).2.1)
      have hqz : z < q := by have := HZ2.out.lt; omega
      have hgq : 0 < xs.length → g ≠ q := fun h0 => by
        obtain ⟨v, _, hr, _⟩ := HI2.out
        obtain ⟨_, _, _, _, _, hlt', _⟩ := hr.at_ h0
        omega
      have HGQ := Lib.hid hgq; clear hgq
      have HPW : Hid (w.heap.size ≤ z) := Lib.hid hz1
      have HQW : Hid (w.heap.size ≤ q) := Lib.hid (by have := HM2.out.size; omega)
      clear HM3 HM2 HM4 HZ2 HS2 HI2 HQ3 hq1 hq2 hz1 hz2
      have HR1 : Hid (rdOp xs n0 l = (rdText xs p1).bind fun key p2 => (foldFld xs (hasF k.toNat) p2 n0 (key0 k key)).bind fun r p => if hasAt k.toNat && !atMay l r.1 then .bad 42 r.2 else .ok r.1 p) := Lib.hid (by rw [HR.out]; simp [Rd.bind, hkn])
      clear HR
      generalize rdText xs p1 = r2 at HT HR1 HTP
      refine HT.out.mono ?_
      cases r2 with
      | bad why at_ =>
        rintro e' w6 ⟨b, rfl, hb, _, hm6, hbl⟩
        have HB6 := Lib.hid hb
        have HM6 : Hid (Mod [p] w w6) := Lib.hid (HM5.out.trans hm6)
        have HV6 : Hid (OpV w6 q _) := Lib.hid (HV4.out.mod hm6 (by simpa using hpq))
        have hzp : z ≠ p := by have := HPW.out; omega
        have HZ6 : Hid (OpV w6 z GOp.zero) := Lib.hid (HZ4.out.mod hm6 (by simpa using hzp))
        clear c0 c1 c2 c3 c36 f1 hb hm6
        obtain ⟨c0, c1, c2, c3, c36, _, _, _⟩ := HV6.out.open_
        dsimp only [key0] at c0 c1 c2 c3 c36
        have f1 := HV6.out.frozen 1
        unfold badV
        have hms : Mod [q] w6 (w6.setCell ⟨q, 1, none⟩ (.string ⟨#[]⟩)) := (Mod.refl [q] w6).setCell _ (by simp) _
        have HMS := Lib.hid hms; clear hms
        have HZ7 : Hid (OpV (w6.setCell ⟨q, 1, none⟩ (.string ⟨#[]⟩)) z GOp.zero) := Lib.hid (HZ6.out.mod HMS.out (by simpa using Nat.ne_of_lt hqz))
        go_wp2_with (((with_reducible refine wpList_store_opV (o := GOp.zero) _ _ rfl ?hgd ?hx ?hy HZ7.out ?_); (case hgd => exact rfl); (case hx => exact rfl); (case hy => exact rfl)); intro w7 hv7 hm7)
        refine bodyPost_ret (results_row_tmp rtOp rfl rfl hv7 (by simp [GOp.cells_length])) rfl ?_
        rw [HR1.out]
        have h1 := HV4.out.lt
        have h2 := HZ4.out.lt
        have hbq : b ≠ q := by omega
        have hbz : b ≠ z := by omega
        have h3 := HM5.out.size
        have h4 := HQW.out
        have h5 := HPW.out
        exact ⟨b, rfl, Blk.mod (Blk.mod HB6.out HMS.out (by simpa using hbq)) hm7 (by simpa using hbz), (HM6.out.then HMS.out (by simp; omega)).then hm7 (by simp; omega), by omega⟩
      | ok key p2 =>
        rintro e' w6 ⟨rfl, hI6, hm6⟩
        have hp2 := HTP.out key p2 rfl
        have HV6 : Hid (OpV w6 q _) := Lib.hid (HV4.out.mod hm6 (by simpa using hpq))
        have hzp : z ≠ p := by have := HPW.out; omega
        have HZ6 : Hid (OpV w6 z GOp.zero) := Lib.hid (HZ4.out.mod hm6 (by simpa using hzp))
        have HS6 : Hid (OS w6 gl _ l) := Lib.hid (HS4.out.mod hm6 (by simpa using hlp))
        have HI6 := Lib.hid hI6
        have HM6 : Hid (Mod [p] w w6) := Lib.hid (HM5.out.trans hm6)
        clear c0 c1 c2 c3 c36 f1 hI6 hm6 HV4 HZ4 HS4 HM5 HI4 HT HTP
        obtain ⟨c0, c1, c2, c3, c36, _, _, _⟩ := HV6.out.open_
        dsimp only [key0] at c0 c1 c2 c3 c36
        have f1 := HV6.out.frozen 1
        have hms : Mod [q] w6 (w6.setCell ⟨q, 1, none⟩ (.string key)) := (Mod.refl [q] w6).setCell _ (by simp) _
        have HV7 : Hid (OpV (w6.setCell ⟨q, 1, none⟩ (.string key)) q (key0 k key)) := Lib.hid (HV6.out.set1 key)
        have HMS := Lib.hid hms; clear hms
        have HZ7 : Hid (OpV (w6.setCell ⟨q, 1, none⟩ (.string key)) z GOp.zero) := Lib.hid (HZ6.out.mod HMS.out (by simpa using Nat.ne_of_lt hqz))
        have HI7 : Hid (InB (w6.setCell ⟨q, 1, none⟩ (.string key)) p g xs p2 .nilIface) := Lib.hid (HI6.out.mod HMS.out (by simpa using hpq.symm) (by simpa using HGQ.out))
        have HS7 : Hid (OS (w6.setCell ⟨q, 1, none⟩ (.string key)) gl (.slice A l.length cap) l) := Lib.hid (HS6.out.mod HMS.out (fun h0 => by have := HGL.out h0; have := HQW.out; simp; omega))
        have HM7 : Hid (Mod [p] w (w6.setCell ⟨q, 1, none⟩ (.string key))) := Lib.hid (HM6.out.then HMS.out (by have := HQW.out; simp; omega))
        clear HMS HV6 HZ6 HS6 HI6 HM6
        obtain ⟨w7, hw7⟩ : ∃ w7, w6.setCell ⟨q, 1, none⟩ (.string key) = w7 := ⟨_, rfl⟩
        rw [hw7] at HV7 HZ7 HI7 HS7 HM7
        obtain ⟨d0, d1, d2, d3, d36, _, _, _⟩ := HV7.out.open_
        dsimp only [key0] at d0 d1 d2 d3 d36
        go_wp2_with fail
        clear hw7 c0 c1 c2 c3 c36 f1 d0 d1 d2 d3 d36
        refine (fields_any _ _).mono ?_
        rintro e' w8 ⟨g1, g2, v1, v2, rfl, hf1, hf2, hm8, hg1, hg2⟩
        obtain ⟨A1, cap1, rfl, _, _⟩ := hf1.val
        have hgq1 : g1 ≠ q := by have := HV7.out.lt; omega
        have hg1w : w.heap.size ≤ g1 := by have := HM7.out.size; omega
        obtain ⟨L, hL⟩ : ∃ L, hasF (k.toNat : Int) = L := ⟨_, rfl⟩
        have HHL := Lib.hid hL
        rw [hL] at hf1 HR1
        have hL3 : L.length ≤ 3 := by rw [← hL]; exact hasF_length _
        rw [hL]
        have HG : Hid (ROG w p g xs z q gl l g1 L) := Lib.hid ⟨hpl, HPW.out, HQW.out, Nat.ne_of_lt hqz, HGQ.out, hlp, HGL.out, fun _ => hg1w, fun _ => hgq1⟩
        have HO8 : Hid (RO w p g xs z q gl (.slice A l.length cap) l g1 (.slice A1 L.length cap1) L (key0 k key) p2 w8) := Lib.hid ⟨HI7.out.mod hm8 (by simp) (by simp), HV7.out.mod hm8 (by simp), HZ7.out.mod hm8 (by simp), HS7.out.mod hm8 (by simp), hf1, HM7.out.trans (hm8.mono (by simp))⟩
        clear HV7 HZ7 HI7 HS7 HM7 hf1 hf2 hm8 hL hg1 hg2 hgq1 hg1w HPW HQW HGQ HGL hqz hzp hpq hlp hpl
        obtain ⟨R, hR⟩ : ∃ R, foldFld xs L p2 n0 (key0 k key) = R := ⟨_, rfl⟩
        have HR2 : Hid (rdOp xs n0 l = R.bind fun r p => if hasAt k.toNat && !atMay l r.1 then .bad 42 r.2 else .ok r.1 p) := Lib.hid (by rw [HR1.out, ← hR]; rfl)
        have HRR := Lib.hid hR
        clear hR HR1
        have HKK : Hid ((key0 k key).kind = (k.toNat : Int)) := Lib.hid rfl
        generalize key0 k key = o0 at *
        go_wp2_with fail
        go_loopw [55, 6] (fun s55 s6 wr => ∃ (i pos place : Nat) (o : GOp), s55 = .int .i64 (i : Int) ∧ s6 = .int .i64 (place : Int) ∧ i ≤ L.length ∧ Hid (RO w p g xs z q gl (.slice A l.length cap) l g1 (.slice A1 L.length cap1) L o pos wr) ∧ pos ≤ xs.length ∧ Hid (foldFld xs (L.drop i) pos place o = R) ∧ Hid (o.kind = (k.toNat : Int))) (fun s55 _ _ => L.length - (intOf s55).toNat)
        case atStart => exact ⟨0, p2, n0, o0, rfl, rfl, by omega, HO8, hp2, by simpa using HRR, HKK⟩
        case round =>
          obtain ⟨i, pos, place, o, rfl, rfl, hi, HO, hpos, HF, HK⟩ := hrel
          clear HO8 HRR HKK
          by_cases hil : i < L.length
          · obtain ⟨off1, cap1', hv', _, _, _, hit⟩ := HO.out.2.2.2.2.1.item (by omega)
            injection hv' with hA _ hcap
            subst hA
            subst hcap
            have HC0 := Lib.hid (hit i hil)
            obtain ⟨f, hf⟩ : ∃ f, L[i] = f := ⟨_, rfl⟩
            rw [hf] at HC0
            have HDR : Hid (L.drop i = f :: L.drop (i + 1)) := Lib.hid (by rw [List.drop_eq_getElem_cons hil, hf])
            clear hit hf
            go_wp2_with (first | ((with_reducible refine wpList_load_fld _ rfl ?hgd HC0.out ?hx ?_); (case hgd => exact rfl); (case hx => exact rfl)) | ((with_reducible refine wpList_store_fld (f := f) _ _ rfl ?hgd ?hx ?hy (Blk.new _ _ _) ?hold ?_); (case hgd => exact rfl); (case hx => exact rfl); (case hy => exact rfl); (case hold => exact rfl); intro w9 hv9 hm9; have c9 := hv9.cell 2; rw [Fld.cells_eq] at c9; simp only [List.getElem?_toArray, List.getElem?_cons_zero, List.getElem?_cons_succ] at c9; have hm10 := (((Mod.refl [] wr).alloc _).then hm9 (by simp)); have HO9 := Lib.hid (HO.out.mod hm10); clear hv9 hm9 hm10) | (go_at_call 48; refine (at_any p g xs _ _ _ HO9.out.1).mono ?_; rintro e' w10 ⟨rfl, rfl⟩))
            rw [fld_enter2, Oper.upon_enter]
            have hread := fldRead_any f o p g q xs w9 pos HO9.out.1 hpos HZ.out HO9.out.2.1 (by have := HG.out.pw; have := HG.out.qw; omega) HG.out.gq
            have hF := HF.out
            rw [HDR.out] at hF
            have hrok := fun o' p' h => rdFld_ok (xs := xs) (f := f) (pos := pos) (p2 := p') (o := o) (o' := o') h hpos
            have hrk := fun o' p' h => rdFld_kind (xs := xs) (f := f) (pos := pos) (p2 := p') (o := o) (o' := o') h
            unfold foldFld at hF
            generalize rdFld f xs pos o = r3 at hread hF hrok hrk
            refine hread.mono ?_
            clear hread
            cases r3 with
            | bad why at_ =>
              rintro e' w11 ⟨b, rfl, hb, _, hm11, hbl⟩
              have HR3 : Hid (rdOp xs n0 l = .bad why at_) := Lib.hid (by rw [HR2.out, ← hF]; rfl)
              have HB11 := Lib.hid hb
              have HM11 := Lib.hid hm11
              have e1 := HG.out.zq
              have e2 := HG.out.pw
              have e3 := HG.out.zw
              have e4 := HG.out.qw
              have HZ11 : Hid (OpV w11 z GOp.zero) := Lib.hid (HO9.out.2.2.1.mod hm11 (by simp; omega))
              have hbz : b ≠ z := by have := HO9.out.2.2.1.lt; omega
              have hb0 : w.heap.size ≤ b := by have := HO9.out.2.2.2.2.2.size; omega
              clear hF hrok hrk hb hm11 c9
              unfold badV
              go_wp2_with (((with_reducible refine wpList_store_opV (o := GOp.zero) _ _ rfl ?hgd ?hx ?hy HZ11.out ?_); (case hgd => exact rfl); (case hx => exact rfl); (case hy => exact rfl)); intro w12 hv12 hm12)
              refine bodyPost_ret (results_row_tmp rtOp rfl rfl hv12 (by simp [GOp.cells_length])) rfl ?_
              rw [HR3.out]
              exact ⟨b, rfl, Blk.mod HB11.out hm12 (by simpa using hbz), (HO9.out.2.2.2.2.2.then HM11.out (by simp; omega)).then hm12 (by simp; omega), hb0⟩
            | ok o' p' =>
              rintro e' w11 ⟨rfl, hI11, hv11, hm11⟩
              have HO11 := Lib.hid (HO9.out.read HG.out hI11 hv11 hm11)
              have hp' := (hrok o' p' rfl).2
              have HK' : Hid (o'.kind = (k.toNat : Int)) := Lib.hid ((hrk o' p' rfl).trans HK.out)
              have HF' : Hid (foldFld xs (L.drop (i + 1)) p' pos o' = R) := Lib.hid hF
              clear hF hrok hrk hI11 hv11 hm11 c9 HO9 HO
              go_wp2
              go_roundw
              case rel => exact ⟨i + 1, p', pos, o', by go_num, rfl, by omega, HO11, hp', HF', HK'⟩
              case measure => simp [intOf]; omega
          · have hie : i = L.length := by omega
            subst hie
            have HF' : Hid (R = .ok (o, place) pos) := Lib.hid (by have := HF.out; rw [List.drop_length] at this; exact this.symm)
            have HR3 : Hid (rdOp xs n0 l = if hasAt k.toNat && !atMay l o then .bad 42 place else .ok o pos) := Lib.hid (by rw [HR2.out, HF'.out]; rfl)
            clear HF HR2 HF'
            obtain ⟨c0, c1, c2, c3, c36, HQ0, _, _⟩ := OpV.open_ HO.out.2.1
            rw [HK.out] at c0
            have HAT : Hid ((cellOf (k.toNat : Int) == 4) = hasAt (k.toNat : Int)) := Lib.hid (cell_at _)
            have e1 := HG.out.zq
            have e2 := HG.out.pw
            have e3 := HG.out.zw
            have e4 := HG.out.qw
            have hq5 := HO.out.2.1.lt
            have HZ0 : Hid (OpV wr z GOp.zero) := Lib.hid HO.out.2.2.1
            by_cases hA : hasAt (k.toNat : Int) = true
            · have hc4 : (cellOf (k.toNat : Int) == 4) = true := HAT.out.trans hA
              by_cases hM : atMay l o = true
              · have HR4 : Hid (rdOp xs n0 l = .ok o pos) := Lib.hid (by rw [HR3.out, hM]; simp)
                clear hA HAT
                go_wp2_with (first | (go_at_call 75; refine (cell_any _ _).mono ?_; rintro e' w12 ⟨rfl, rfl⟩) | ((with_reducible refine wpList_load_op _ rfl ?hgd HQ0.out ?hx ?_); (case hgd => exact rfl); (case hx => exact rfl)) | (go_at_call 76; refine (right_any l o gl _ _ HO.out.2.2.2.1).mono ?_; rintro e' w12 ⟨rfl, hm12⟩; have HO12 := Lib.hid (HO.out.mod hm12); have HZ12 : Hid (OpV w12 z GOp.zero) := Lib.hid HO12.out.2.2.1; have HQ12 : Hid (OpAt w12 q 0 o) := Lib.hid (CellsAt.of_blk HO12.out.2.1); clear hm12) | ((with_reducible refine wpList_load_op _ rfl ?hgd HQ12.out ?hx ?_); (case hgd => exact rfl); (case hx => exact rfl)) | (((with_reducible refine wpList_store_opV (o := o) _ _ rfl ?hgd ?hx ?hy HZ12.out ?_); (case hgd => exact rfl); (case hx => exact rfl); (case hy => exact rfl)); intro w13 hv13 hm13))
                refine bodyPost_ret (results_row_tmp rtOp rfl rfl hv13 (by simp [GOp.cells_length])) rfl ?_
                rw [HR4.out]
                exact ⟨rfl, HO12.out.1.mod hm13 (by simp; omega) (fun h0 => by obtain ⟨v, _, hr, _⟩ := HI1.out; obtain ⟨_, _, _, _, _, hl', _⟩ := hr.at_ h0; simp; omega), HO12.out.2.2.2.2.2.then hm13 (by simp; omega)⟩
              · have hMf : atMay l o = false := by simpa using hM
                have HR4 : Hid (rdOp xs n0 l = .bad 42 place) := Lib.hid (by rw [HR3.out, hA, hMf]; rfl)
                clear hA HAT hM
                go_wp2_with (first | (go_at_call 75; refine (cell_any _ _).mono ?_; rintro e' w12 ⟨rfl, rfl⟩) | ((with_reducible refine wpList_load_op _ rfl ?hgd HQ0.out ?hx ?_); (case hgd => exact rfl); (case hx => exact rfl)) | (go_at_call 76; refine (right_any l o gl _ _ HO.out.2.2.2.1).mono ?_; rintro e' w12 ⟨rfl, hm12⟩; have HO12 := Lib.hid (HO.out.mod hm12); have HZ12 : Hid (OpV w12 z GOp.zero) := Lib.hid HO12.out.2.2.1; clear hm12) | (((with_reducible refine wpList_store_opV (o := GOp.zero) _ _ rfl ?hgd ?hx ?hy (OpV.alloc HZ12.out _) ?_); (case hgd => exact rfl); (case hx => exact rfl); (case hy => exact rfl)); intro w13 hv13 hm13))
                refine bodyPost_ret (results_row_tmp rtOp rfl rfl hv13 (by simp [GOp.cells_length])) rfl ?_
                rw [HR4.out]
                have e5 := HO12.out.2.2.1.lt
                have hbz : w12.heap.size ≠ z := by omega
                exact ⟨w12.heap.size, rfl, Blk.mod (Blk.new w12 62 _) hm13 (by simpa using hbz), (HO12.out.2.2.2.2.2.alloc _).then hm13 (by simp; omega), by omega⟩
            · have hAf : hasAt (k.toNat : Int) = false := by simpa using hA
              have hc4 : (cellOf (k.toNat : Int) == 4) = false := HAT.out.trans hAf
              have HR4 : Hid (rdOp xs n0 l = .ok o pos) := Lib.hid (by rw [HR3.out, hAf]; rfl)
              clear hA HAT
              go_wp2_with (first | (go_at_call 75; refine (cell_any _ _).mono ?_; rintro e' w12 ⟨rfl, rfl⟩) | ((with_reducible refine wpList_load_op _ rfl ?hgd HQ0.out ?hx ?_); (case hgd => exact rfl); (case hx => exact rfl)) | (((with_reducible refine wpList_store_opV (o := o) _ _ rfl ?hgd ?hx ?hy HZ0.out ?_); (case hgd => exact rfl); (case hx => exact rfl); (case hy => exact rfl)); intro w13 hv13 hm13))
              refine bodyPost_ret (results_row_tmp rtOp rfl rfl hv13 (by simp [GOp.cells_length])) rfl ?_
              rw [HR4.out]
              exact ⟨rfl, HO.out.1.mod hm13 (by simp; omega) (fun h0 => by obtain ⟨v, _, hr, _⟩ := HI1.out; obtain ⟨_, _, _, _, _, hl', _⟩ := hr.at_ h0; simp; omega), HO.out.2.2.2.2.2.then hm13 (by simp; omega)⟩
    · have hkf : known (k.toNat : Int) = false := by simpa using hkn
      have HR1 : Hid (rdOp xs n0 l = .bad 40 n0) := Lib.hid (by rw [HR.out]; simp [Rd.bind, hkf])
      clear hkn HR
      go_wp2_with (first | (((with_reducible refine wpList_alloc_op rfl ?hgd ?_); (case hgd => exact rfl); intro q w3 hq3 hm3 hq1 hq2); have HQ3 := Lib.hid hq3; have HM3 := Lib.hid hm3; clear hq3 hm3) | (((with_reducible refine wpList_store_opV (o := key0 k ⟨#[]⟩) _ _ rfl ?hgd ?hx ?hy HQ3.out ?_); (case hgd => exact rfl); (case hx => exact rfl); (case hy => exact rfl)); intro w4 hv4 hm4; have HV4 := Lib.hid hv4; have HM4 := Lib.hid (HM3.out.then (T := [q]) hm4 (by simp; omega)); clear hv4 hm4; obtain ⟨c0, c1, c2, c3, c36, _, _, _⟩ := HV4.out.open_; dsimp only [key0] at c0 c1 c2 c3 c36; have HZ4 : Hid (OpV w4 z GOp.zero) := Lib.hid (HZ2.out.mod HM4.out (by simp))) | (go_at_call 74; refine (known_any _ _).mono ?_; rintro e' w5 ⟨rfl, rfl⟩) | (((with_reducible refine wpList_store_opV (o := GOp.zero) _ _ rfl ?hgd ?hx ?hy (OpV.alloc HZ4.out _) ?_); (case hgd => exact rfl); (case hx => exact rfl); (case hy => exact rfl)); intro w5 hv5 hm5))
      refine bodyPost_ret (results_row_tmp rtOp rfl rfl hv5 (by simp [GOp.cells_length])) rfl ?_
      rw [HR1.out]
      have h1 := HZ4.out.lt
      have h2 := HM4.out.size
      have h3 := HM2.out.size
      have hbz : w4.heap.size ≠ z := by omega
      exact ⟨w4.heap.size, rfl, Blk.mod (Blk.new w4 62 _) hm5 (by simpa using hbz), ((HM2.out.trans (HM4.out.mono (by simp))).alloc _).then hm5 (by simp; omega), by omega⟩
end Go.Proofs.Ytlpjeckhejbkkaa
