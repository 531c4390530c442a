import Derived.Test.YtlpjeckhejbkkaaChk2
set_option linter.unusedVariables false
set_option linter.unusedSimpArgs false
set_option maxRecDepth 20000
set_option maxHeartbeats 400000
namespace Go.Proofs.Ytlpjeckhejbkkaa
open Go.RowKit

theorem Fresh.not {w : World} {F F' : List Nat} {q : Nat} (h : Fresh w F F') (hq : q ∉ F) (hl : q < w.heap.size) : q ∉ F' := fun hm => by
  rcases h q hm with h1 | h1
  · exact hq h1
  · omega
theorem RS.not {w : World} {sz g n : Nat} {v : Value} {cs : List Value} {F F' : List Nat} (h : RS w sz g v n cs) (hf : Fresh w F F') (hn : 0 < n → g ∉ F) : 0 < n → g ∉ F' := fun h0 => by
  obtain ⟨_, _, _, _, _, hl, _⟩ := h.at_ h0
  exact hf.not (hn h0) hl
/-- the numbers of an operation are numbers of the machine -/
def GOp.nums (o : GOp) : Prop := -9223372036854775808 ≤ o.n ∧ o.n ≤ 9223372036854775807
theorem putOp_eq (o : GOp) (hk : known o.kind = true) : putOp o = UInt8.ofNat (o.kind.toNat % 256) :: (putText o.key ++ (hasF o.kind).flatMap fun f => Fld.lay f o) := by
  unfold known at hk
  have hk := of_decide_eq_true hk
  have h9 : o.kind = 1 ∨ o.kind = 2 ∨ o.kind = 3 ∨ o.kind = 4 ∨ o.kind = 5 ∨ o.kind = 6 ∨ o.kind = 7 ∨ o.kind = 8 ∨ o.kind = 9 := by omega
  unfold putOp
  rcases h9 with h | h | h | h | h | h | h | h | h <;> simp [hasText, hasAt, hasF, Fld.lay, h]
theorem wrong_zero {l : List GOp} {o : GOp} (h : wrongOp l o = 0) : known o.kind = true ∧ o.key.size ≤ 65536 ∧ o.text.size ≤ 65536 ∧ ¬ bad41 o ∧ (hasAt o.kind = true → atMay l o = true) := by
  unfold wrongOp at h
  unfold bad41
  split at h
  · cases h
  · split at h
    · cases h
    · split at h
      · cases h
      · split at h
        · cases h
        · rename_i h1 h2 h3 h4
          refine ⟨by simpa using h1, by omega, by omega, h3, fun ha => ?_⟩
          rcases hm : atMay l o with _ | _
          · exact absurd ⟨ha, hm⟩ h4
          · rfl
theorem atMay_fits {l : List GOp} {o : GOp} (h : atMay l o = true) (hl : l.length ≤ 1024) : 0 ≤ o.at_.op ∧ o.at_.op ≤ 1024 := by
  unfold atMay at h
  split at h
  · split at h
    · omega
    · split at h
      · omega
      · cases h
  · have := of_decide_eq_true h
    omega
theorem hasF_at {k : Int} (h : Fld.at_ ∈ hasF k) : hasAt k = true := by
  unfold hasF at h
  unfold hasAt
  split at h
  · simp at h
  · split at h
    · simp at h
    · split at h
      · simp_all
      · split at h
        · simp_all
        · simp at h
theorem wrong_fits {l : List GOp} {o : GOp} (h : wrongOp l o = 0) (hl : l.length ≤ 1024) (hn : o.nums) : ∀ f ∈ hasF o.kind, Fld.fits f o := by
  obtain ⟨_, _, h1, _, h2⟩ := wrong_zero h
  intro f hf
  cases f
  · exact h1
  · exact hn
  · exact atMay_fits (h2 (hasF_at hf)) hl
theorem checkFrom_all (done l : List GOp) (h : (checkFrom done l).1 = 0) : ∀ j (hj : j < l.length), wrongOp (done ++ l.take j) l[j] = 0 := by
  induction l generalizing done with
  | nil => intro j hj; simp at hj
  | cons o l ih =>
    unfold checkFrom at h
    split at h
    · rename_i h0
      intro j hj
      cases j with
      | zero => simpa using h0
      | succ j => simpa using ih (done ++ [o]) h j (by simpa using hj)
    · rename_i h0
      exact absurd h h0
theorem check_all {l : List GOp} (h : (checkOps l).1 = 0) : l.length ≤ 1024 ∧ ∀ j (hj : j < l.length), wrongOp (l.take j) l[j] = 0 := by
  unfold checkOps at h
  split at h
  · cases h
  · exact ⟨by omega, by simpa using checkFrom_all [] l h⟩
theorem putText_length (s : ByteArray) (h : s.size ≤ 65536) : (putText s).length ≤ 65546 := by
  unfold putText
  have := putNum_length10 s.size (by omega)
  have e : s.data.toList.length = s.size := rfl
  rw [List.length_append, e]
  omega
theorem zig_lt (x : Int) (h0 : -9223372036854775808 ≤ x) (h1 : x ≤ 9223372036854775807) : zig x < 18446744073709551616 := by unfold zig; split <;> omega
theorem lay_length (f : Fld) (o : GOp) (h : Fld.fits f o) (ht : o.text.size ≤ 65536) : (Fld.lay f o).length ≤ 65546 := by
  cases f
  · exact putText_length _ h
  · have := putNum_length10 (zig o.n) (zig_lt _ h.1 h.2)
    show (putNum (zig o.n)).length ≤ 65546
    omega
  · show (putAt o.at_).length ≤ 65546
    unfold putAt
    have h1 := h.1
    have h2 := h.2
    have := putNum_length10 o.at_.op.toNat (by omega)
    rw [List.length_append]
    split
    · simp; omega
    · have := o.at_.node.h
      omega
theorem layList_length (L : List Fld) (o : GOp) (h : ∀ f ∈ L, Fld.fits f o) (ht : o.text.size ≤ 65536) : (L.flatMap fun f => Fld.lay f o).length ≤ L.length * 65546 := by
  induction L with
  | nil => simp
  | cons f L ih =>
    rw [List.flatMap_cons, List.length_append, List.length_cons]
    have := lay_length f o (h f (by simp)) ht
    have := ih (fun f hf => h f (by simp [hf]))
    omega
theorem putOp_length (l : List GOp) (o : GOp) (h : wrongOp l o = 0) (hl : l.length ≤ 1024) (hn : o.nums) : (putOp o).length ≤ 300000 := by
  obtain ⟨hk, h1, h2, _⟩ := wrong_zero h
  rw [putOp_eq o hk]
  have := layList_length (hasF o.kind) o (wrong_fits h hl hn) h2
  have := hasF_length o.kind
  have := putText_length o.key h1
  simp only [List.length_cons, List.length_append]
  omega
theorem takeOps_length (l : List GOp) (hl : l.length ≤ 1024) (h : ∀ j (hj : j < l.length), wrongOp (l.take j) l[j] = 0) (hn : ∀ o ∈ l, o.nums) : ∀ j, j ≤ l.length → ((l.take j).flatMap putOp).length ≤ j * 300000 := by
  intro j
  induction j with
  | zero => intro _; simp
  | succ j ih =>
    intro hj
    have h1 := ih (by omega)
    have h2 := putOp_length (l.take j) l[j] (h j (by omega)) (by simp; omega) (hn _ (List.getElem_mem _))
    rw [List.take_succ_eq_append_getElem (by omega), List.flatMap_append, List.length_append]
    simp only [List.flatMap_cons, List.flatMap_nil, List.append_nil]
    omega
theorem wpList_drop {P : Program} {ops : Array Oper} {a : Act} {w : World} {Q : Exit → Act → World → Prop} {l : List Oper} (h : wpList P ops Q l a w) : wpList P ops Q l a w := h
/-- the state while one operation is laid -/
def PS (w : World) (p : Nat) (F : List Nat) (q g : Nat) (v : Value) (l : List GOp) (o : GOp) (F' : List Nat) (ys : Bytes) (wr : World) : Prop :=
  OutB wr p F' ys ∧ OS wr g v l ∧ OpV wr q o ∧ Mod F w wr ∧ Fresh w F F' ∧ (0 < l.length → g ∉ F') ∧ q ∉ F'
section
variable {w wr w' : World} {p q g g1 : Nat} {F F' : List Nat} {v v1 : Value} {l : List GOp} {o : GOp} {ys zs : Bytes} {L : List Fld}
theorem PS.lay (h : PS w p F q g v l o F' ys wr) {e : Ending} (hp : OutP wr p F' zs e w') : e = .returned (.tuple #[]) ∧ ∃ F'', PS w p F q g v l o F'' zs w' ∧ Mod F' wr w' ∧ Fresh wr F' F'' := by
  obtain ⟨h1, h2, h3, h4, h5, h6, h7⟩ := h
  obtain ⟨he, F'', k1, k2, k3⟩ := hp
  exact ⟨he, F'', ⟨k1, h2.mod k2 h6, h3.mod k2 h7, h4.fresh h5 k2, h5.trans k3 h4.size, h2.not k3 h6, k3.not h7 h3.lt⟩, k2, k3⟩
theorem PS.mod (h : PS w p F q g v l o F' ys wr) (hm : Mod [] wr w') : PS w p F q g v l o F' ys w' := by
  obtain ⟨h1, h2, h3, h4, h5, h6, h7⟩ := h
  exact ⟨h1.mod hm (by simp), h2.mod hm (by simp), h3.mod hm (by simp), h4.trans (hm.mono (by simp)), h5, h6, h7⟩
end
def PutP (w : World) (p : Nat) (F : List Nat) (xs : Bytes) (l : List GOp) (e : Ending) (w' : World) : Prop :=
  e = .returned (.int .i64 (checkOps l).1) ∧ ∃ F', OutB w' p F' (if (checkOps l).1 = 0 then xs ++ putOps l else xs) ∧ Mod F w w' ∧ Fresh w F F'
theorem put_any (l : List GOp) (g : Nat) (v : Value) (p : Nat) (F : List Nat) (xs : Bytes) (w : World) (hO : OutB w p F xs) (hs : OS w g v l) (hg : 0 < l.length → g ∉ F) (hn : ∀ o ∈ l, o.nums) (hz : xs.length ≤ 160000000000000) :
    Calls Try.prog 43 #[ptr p, v] w (PutP w p F xs l) := by
  have hchk := check_any l g v w hs
  have HCH := Lib.hid hchk; clear hchk
  have HN := Lib.hid hn; clear hn
  have HG := Lib.hid hg; clear hg
  obtain ⟨A, cap, rfl, _, _⟩ := hs.val
  by_cases h0 : (checkOps l).1 = 0
  · obtain ⟨hl, hall⟩ := check_all h0
    have H0 := Lib.hid h0; clear h0
    have HALL := Lib.hid hall; clear hall
    go_enter Try.func43, Try.ntmps43
    go_wp2_with fail
    refine HCH.out.mono ?_
    rintro e' w1 ⟨rfl, hm1⟩
    have HS1 : Hid (OS w1 g _ l) := Lib.hid (hs.mod hm1 (by simp))
    have HO1 := Lib.hid (hO.mod hm1 (by simp))
    have HM1 := Lib.hid hm1
    rw [H0.out]
    clear hm1 hs hO HCH
    go_wp2_with fail
    refine (outNumber_any p F xs l.length w1 HO1.out (by omega) (by omega)).mono ?_
    rintro e' w2 ⟨rfl, F2, hO2, hm2, hf2⟩
    have HS2 : Hid (OS w2 g _ l) := Lib.hid (HS1.out.mod hm2 HG.out)
    have HG2 : Hid (0 < l.length → g ∉ F2) := Lib.hid (HS1.out.not hf2 HG.out)
    have HO2 := Lib.hid hO2
    have HM2 := Lib.hid ((HM1.out.mono (T := F) (by simp)).trans hm2)
    have HF2 : Hid (Fresh w F F2) := Lib.hid (fun b hb => (hf2 b hb).imp id (by have := HM1.out.size; omega))
    clear hO2 hm2 hf2 HS1 HO1 HM1
    have HTL := Lib.hid (takeOps_length l hl HALL.out HN.out)
    have HLB : Hid ((putNum l.length).length ≤ 10) := Lib.hid (putNum_length10 _ (by omega))
    go_wp2_with fail
    go_loopw [28] (fun s wr => ∃ (j : Nat) (F' : List Nat), s = .int .i64 (j : Int) ∧ j ≤ l.length ∧ Hid (OS wr g (.slice A l.length cap) l) ∧ Hid (OutB wr p F' (xs ++ putNum l.length ++ (l.take j).flatMap putOp)) ∧ Hid (Mod F w wr) ∧ Hid (Fresh w F F') ∧ Hid (0 < l.length → g ∉ F')) (fun s _ => l.length - (intOf s).toNat)
    case atStart => exact ⟨0, F2, rfl, by omega, HS2, Lib.hid (by simpa using HO2.out), HM2, HF2, HG2⟩
    case round =>
      obtain ⟨j, F', rfl, hj, HS, HO, HM, HF, HG'⟩ := hrel
      clear HS2 HO2 HM2 HF2 HG2
      by_cases hjl : j < l.length
      · obtain ⟨off, cap', hv', _, _, hgl, hit⟩ := HS.out.item (by omega)
        injection hv' with hA _ hcap
        subst hA
        subst hcap
        have HJ := Lib.hid (hit j hjl)
        have HLEN : Hid (((l.take j).flatMap putOp).length ≤ 307200000) := Lib.hid (by have := HTL.out j hj; omega)
        have HW := Lib.hid (HALL.out j hjl)
        have HTK : Hid (l.take (j + 1) = l.take j ++ [l[j]]) := Lib.hid (List.take_succ_eq_append_getElem hjl)
        have HON := Lib.hid (HN.out l[j] (List.getElem_mem _))
        have hqF : wr.heap.size ∉ F' := fun h => by have := HO.out.all _ h; omega
        have HQF := Lib.hid hqF
        clear hit hqF
        obtain ⟨o, ho⟩ : ∃ o, l[j] = o := ⟨_, rfl⟩
        rw [ho] at HJ HW HTK HON
        clear ho
        obtain ⟨hk, hks, hts, _, _⟩ := wrong_zero HW.out
        have HFIT := Lib.hid (wrong_fits HW.out (by simp; omega) HON.out)
        have HPE := Lib.hid (putOp_eq o hk)
        obtain ⟨kn, hkn, hkn9⟩ : ∃ kn : Nat, o.kind = (kn : Int) ∧ kn < 10 := ⟨o.kind.toNat, by unfold known at hk; have := of_decide_eq_true hk; omega, by unfold known at hk; have := of_decide_eq_true hk; omega⟩
        have HKN := Lib.hid hkn
        clear hk
        obtain ⟨B, hB⟩ : ∃ B, xs ++ putNum l.length ++ (l.take j).flatMap putOp = B := ⟨_, rfl⟩
        have HBE := Lib.hid hB
        rw [hB] at HO
        have HBL : Hid (B.length ≤ 160000400000000) := Lib.hid (by rw [← hB, List.length_append, List.length_append]; have := HLB.out; have := HLEN.out; omega)
        clear hB
        go_wp2_with (first | ((with_reducible refine wpList_load_op _ rfl ?hgd HJ.out ?hx ?_); (case hgd => exact rfl); (case hx => exact rfl)) | ((with_reducible refine wpList_store_op (o := o) _ _ rfl ?hgd ?hx ?hy (Blk.new _ _ _) ?hold ?_); (case hgd => exact rfl); (case hx => exact rfl); (case hy => exact rfl); (case hold => exact rfl); intro w3 hv3 hm3; have hm4 := ((Mod.refl [] wr).alloc _).then hm3 (by simp); obtain ⟨c0, c1, c2, c3, c36, _, _, _⟩ := hv3.open_; have HP3 : Hid (PS w p F wr.heap.size g _ l o F' B w3) := Lib.hid ⟨HO.out.mod hm4 (by simp), HS.out.mod hm4 (by simp), hv3, HM.out.trans (hm4.mono (by simp)), HF.out, HG'.out, HQF.out⟩; clear hv3 hm3 hm4))
        refine (outByte_any p F' B (UInt8.ofNat kn) kn (by simp; omega) w3 HP3.out.1 (by have := HBL.out; omega)).mono ?_
        rintro e' w4 hp4
        obtain ⟨rfl, F4, hP4, _, _⟩ := HP3.out.lay hp4
        have HP4 := Lib.hid hP4
        clear hp4 hP4 HP3 HS HO HM HF HG' HJ c0 c1 c2 c3 c36
        obtain ⟨c0, c1, c2, c3, c36, _, _, _⟩ := OpV.open_ HP4.out.2.2.1
        go_wp2_with fail
        refine (outText_any p F4 _ o.key w4 HP4.out.1 (by omega) (by have := HBL.out; simp only [List.length_append, List.length_cons, List.length_nil]; omega)).mono ?_
        rintro e' w5 hp5
        obtain ⟨rfl, F5, hP5, _, _⟩ := HP4.out.lay hp5
        have HP5 := Lib.hid hP5
        clear hp5 hP5 HP4 c0 c1 c2 c3 c36
        obtain ⟨c0, c1, c2, c3, c36, _, _, _⟩ := OpV.open_ HP5.out.2.2.1
        go_wp2_with fail
        have hfl := fields_any o.kind w5
        rw [HKN.out] at hfl
        refine hfl.mono ?_
        rintro e' w6 ⟨g1, g2, v1, v2, rfl, hf1, hf2, hm6, hg1, _⟩
        have HP6 := Lib.hid (HP5.out.mod hm6)
        have hgn : g1 ∉ F5 := fun h => by have := HP5.out.1.all _ h; omega
        have HGN : Hid (0 < (hasF (kn : Int)).length → g1 ∉ F5) := Lib.hid (fun _ => hgn)
        obtain ⟨A1, cap1, rfl, _, _⟩ := hf1.val
        have HF6 : Hid (FS w6 g1 _ (hasF (kn : Int))) := Lib.hid hf1
        have HK : Hid (hasF o.kind = hasF (kn : Int)) := Lib.hid (by rw [HKN.out])
        rw [HK.out] at HFIT HPE
        have hL3 := hasF_length (kn : Int)
        clear hf1 hf2 hm6 hg1 hgn HP5 c0 c1 c2 c3 c36 HK
        generalize hasF (kn : Int) = L at *
        generalize wr.heap.size = q at *
        go_wp2_with fail
        go_loopw [49] (fun s w7 => ∃ (i : Nat) (F7 : List Nat), s = .int .i64 (i : Int) ∧ i ≤ L.length ∧ Hid (PS w p F q g (.slice (some ⟨g, off, none⟩) l.length cap) l o F7 (B ++ [UInt8.ofNat kn] ++ putText o.key ++ (L.take i).flatMap fun f => Fld.lay f o) w7) ∧ Hid (FS w7 g1 (.slice A1 L.length cap1) L) ∧ Hid (0 < L.length → g1 ∉ F7)) (fun s _ => L.length - (intOf s).toNat)
        case atStart => exact ⟨0, F5, rfl, by omega, Lib.hid (by simpa using HP6.out), HF6, HGN⟩
        case round =>
          obtain ⟨i, F7, rfl, hi, HP7, HF7, HG7⟩ := hrel
          clear HP6 HF6 HGN
          by_cases hil : i < L.length
          · obtain ⟨off1, cap1', hv', _, _, _, hit⟩ := HF7.out.item (by omega)
            injection hv' with hA _ hcap
            subst hA
            subst hcap
            have HC0 := Lib.hid (hit i hil)
            obtain ⟨f, hf⟩ : ∃ f, L[i] = f := ⟨_, rfl⟩
            rw [hf] at HC0
            have HFF : Hid (Fld.fits f o) := Lib.hid (HFIT.out f (by rw [← hf]; exact List.getElem_mem hil))
            have HTKi : Hid (L.take (i + 1) = L.take i ++ [f]) := Lib.hid (by rw [List.take_succ_eq_append_getElem hil, hf])
            clear hit hf
            go_wp2_with (first | ((with_reducible refine wpList_load_fld _ rfl ?hgd HC0.out ?hx ?_); (case hgd => exact rfl); (case hx => exact rfl)) | ((with_reducible refine wpList_store_fld (f := f) _ _ rfl ?hgd ?hx ?hy (Blk.new _ _ _) ?hold ?_); (case hgd => exact rfl); (case hx => exact rfl); (case hy => exact rfl); (case hold => exact rfl); intro w8 hv8 hm8; have c8 := hv8.cell 1; rw [Fld.cells_eq] at c8; simp only [List.getElem?_toArray, List.getElem?_cons_zero, List.getElem?_cons_succ] at c8; have hm9 := (((Mod.refl [] wr).alloc _).then hm8 (by simp)); have HP8 := Lib.hid (HP7.out.mod hm9); have HO8 : Hid (OpAt w8 q 0 o) := Lib.hid (CellsAt.of_blk HP8.out.2.2.1); have HF8 : Hid (FS w8 g1 _ L) := Lib.hid (HF7.out.mod hm9 (by simp)); clear hv8 hm8 hm9) | ((with_reducible refine wpList_load_op _ rfl ?hgd HO8.out ?hx ?_); (case hgd => exact rfl); (case hx => exact rfl)))
            rw [fld_enter1, Oper.upon_enter]
            have hB8 := HP8.out.1
            have hlen : (B ++ [UInt8.ofNat kn] ++ putText o.key ++ (L.take i).flatMap fun f => Fld.lay f o).length ≤ 170000000000000 := by
              have h1 := layList_length (L.take i) o (fun f hf => HFIT.out f (List.mem_of_mem_take hf)) hts
              have h2 := putText_length o.key hks
              have h3 := HBL.out
              have h4 : (L.take i).length ≤ 3 := by simp; omega
              simp only [List.length_append, List.length_cons, List.length_nil] at h1 ⊢
              omega
            refine (fldLay_any f o p F7 _ w8 hB8 HFF.out hlen).mono ?_
            rintro e' w9 hp9
            obtain ⟨rfl, F9, hP9, hm9, hf9⟩ := HP8.out.lay hp9
            have HP9 := Lib.hid hP9
            have HF9 : Hid (FS w9 g1 _ L) := Lib.hid (HF8.out.mod hm9 HG7.out)
            have HG9 : Hid (0 < L.length → g1 ∉ F9) := Lib.hid (HF8.out.not hf9 HG7.out)
            clear hp9 hP9 hm9 hf9 HP8 HF8 HG7 HP7 HF7 hB8 hlen c8
            go_wp2
            go_roundw
            case rel => exact ⟨i + 1, F9, by go_num, by omega, Lib.hid (by rw [HTKi.out, List.flatMap_append, ← List.append_assoc]; simpa using HP9.out), HF9, HG9⟩
            case measure => simp [intOf]; omega
          · have hie : i = L.length := by omega
            subst hie
            go_wp2
            go_roundw
            case rel =>
              obtain ⟨k1, k2, k3, k4, k5, k6, k7⟩ := HP7.out
              have e : xs ++ putNum l.length ++ (l.take (j + 1)).flatMap putOp = B ++ [UInt8.ofNat kn] ++ putText o.key ++ (L.take L.length).flatMap fun f => Fld.lay f o := by
                rw [HTK.out, List.flatMap_append, ← List.append_assoc, HBE.out, List.take_length]
                simp [HPE.out, HKN.out]
                rw [Nat.mod_eq_of_lt (by omega)]
              exact ⟨j + 1, F7, by go_num, by omega, Lib.hid k2, Lib.hid (by rw [e]; exact k1), Lib.hid k4, Lib.hid k5, Lib.hid k6⟩
            case measure => simp [intOf]; omega
      · have hje : j = l.length := by omega
        subst hje
        go_wp2
        go_ret
        refine ⟨by rw [H0.out]; rfl, F', ?_, HM.out, HF.out⟩
        rw [if_pos H0.out]
        have := HO.out
        rw [List.take_length, List.append_assoc] at this
        exact this
  · have h0i : ¬ (((checkOps l).1 : Nat) : Int) = 0 := by omega
    go_enter Try.func43, Try.ntmps43
    go_wp2_with fail
    refine HCH.out.mono ?_
    rintro e' w1 ⟨rfl, hm1⟩
    have HO1 := Lib.hid (hO.mod hm1 (by simp))
    have HM1 := Lib.hid hm1
    clear hm1 hs hO HCH
    go_wp2
    go_ret
    refine ⟨rfl, F, ?_, HM1.out.mono (by simp), Fresh.refl _ _⟩
    rw [if_neg h0]
    exact HO1.out
end Go.Proofs.Ytlpjeckhejbkkaa
