import Derived.Test.YtlpjeckhejbkkaaOne2
import Derived.Test.YtlpjeckhejbkkaaBuild
set_option linter.unusedVariables false
set_option linter.unusedSimpArgs false
set_option maxRecDepth 20000
set_option maxHeartbeats 800000
namespace Go.Proofs.Ytlpjeckhejbkkaa
open Go.RowKit

def OwnO (w : World) (v : Value) (l : List GOp) : Prop := w.ownsRow 0 74 37 v l.length (l.flatMap GOp.cells)
theorem OwnO.nil (w : World) : OwnO w (.slice none 0 0) [] := own_nil w _ _
theorem OwnO.mod {w w' : World} {v : Value} {l : List GOp} {S : List Nat} (h : OwnO w v l) (hm : Mod S w w') (hd : ∀ b ∈ blks v, b ∉ S) : OwnO w' v l := own_mod h hm hd
theorem OwnO.lt {w : World} {v : Value} {l : List GOp} (h : OwnO w v l) : ∀ b ∈ blks v, b < w.heap.size := own_lt h
theorem OwnO.val {w : World} {v : Value} {l : List GOp} (h : OwnO w v l) : ∃ A cap, v = .slice A l.length cap ∧ l.length ≤ cap ∧ cap ≤ maxLen := own_slice h
theorem OwnO.os {w : World} {v : Value} {l : List GOp} (h : OwnO w v l) : ∃ g, OS w g v l ∧ (0 < l.length → g ∈ blks v) := by
  obtain ⟨g, h1, h2⟩ := RS.of_own h
  exact ⟨g, h1, fun h0 => by simp [blks, h2 h0]⟩
theorem ops_one (l : List GOp) : ∀ u ∈ l.flatMap GOp.cells, u.oneCell' = true := by
  intro u hu
  obtain ⟨o, _, ho⟩ := List.mem_flatMap.1 hu
  exact o.one u ho
theorem wpList_append_ops {ops : Array Oper} {rest : List Oper} {o : Oper} {a : Act} {Q : Exit → Act → World → Prop} {w : World} (hgd : Region.wanted o (yielded ops a.tmps) = true) (s x : Operand)
    (ho : o.op = .call { callee := .builtin .append, args := #[s, x], argTypes := #[24, 24] })
    {v : Value} {xs : List GOp} (hown : OwnO w v xs) (hs : a.eval s = v) {g : Nat} {sv : Value} {ys : List GOp} (hr : OS w g sv ys) (hx : a.eval x = sv)
    (h : ∀ A' n' cap' w', OwnO w' (.slice A' n' cap') (xs ++ ys) → Hid (n' = xs.length + ys.length) → Mod (blks v) w w' → Hid (∀ b ∈ blks (.slice A' n' cap'), b ∈ blks v ∨ b = w.heap.size) → wpList Try.prog ops Q rest (a.put o.dst (.slice A' n' cap')) w') (hz : xs.length + ys.length ≤ 2000000000000) :
    wpList Try.prog ops Q (o :: rest) a w := by
  refine wpList_append_rs etOps hgd s x ho hown hs hr hx (ops_one ys) (by unfold maxLen; omega) (by omega) fun A' cap' w' h1 h2 h3 => h A' _ cap' w' ?_ (Lib.hid rfl) h2 (Lib.hid h3)
  unfold OwnO
  rw [List.length_append, List.flatMap_append]
  exact h1
theorem wpList_buildSlice_op {ops : Array Oper} {rest : List Oper} {op : Oper} {a : Act} {w : World} {Q : Exit → Act → World → Prop} (x : Operand) (ho : op.op = .buildSlice 24 1 #[(0, x)]) (hgd : Region.wanted op (yielded ops a.tmps) = true) {o : GOp} (hx : a.eval x = o.val)
    (h : ∀ g w1, OS w1 g (.slice (some ⟨g, 0, none⟩) 1 1) [o] → Mod [] w w1 → w.heap.size ≤ g → g < w1.heap.size → wpList Try.prog ops Q rest (a.put op.dst (.slice (some ⟨g, 0, none⟩) 1 1)) w1) : wpList Try.prog ops Q (op :: rest) a w :=
  wpList_buildSlice1 etOps (by omega) x ho hgd (v := o.val) (cs := o.cells) rfl o.cells_length hx fun g w1 h1 _ h2 h3 h4 => h g w1 (by simpa [OS] using h1) h2 h3 h4
def GetP (w : World) (p g : Nat) (xs : Bytes) (r : Rd (List GOp)) (e' : Ending) (w' : World) : Prop :=
  match r with
  | .ok l pos => ∃ A n cap, e' = .returned (.tuple #[.slice A n cap, .nilIface]) ∧ OwnO w' (.slice A n cap) l ∧ InB w' p g xs pos .nilIface ∧ Mod [p] w w' ∧ (∀ b ∈ blks (.slice A n cap), w.heap.size ≤ b)
  | .bad why at_ => ∃ b, e' = .returned (.tuple #[.slice none 0 0, badV b]) ∧ BadAt w' b why at_ ∧ Mod [p] w w' ∧ w.heap.size ≤ b
theorem foldFld_ok {xs : Bytes} (L : List Fld) : ∀ (pos place : Nat) (o : GOp) (r : GOp × Nat) (p2 : Nat), foldFld xs L pos place o = .ok r p2 → pos ≤ xs.length → pos ≤ p2 ∧ p2 ≤ xs.length := by
  induction L with
  | nil => intro pos place o r p2 h hn; unfold foldFld at h; cases h; exact ⟨by omega, hn⟩
  | cons f L ih =>
    intro pos place o r p2 h hn
    unfold foldFld at h
    rcases h1 : rdFld f xs pos o with ⟨o', p'⟩ | ⟨w, a⟩
    · rw [h1] at h
      obtain ⟨h2, h3⟩ := rdFld_ok h1 hn
      obtain ⟨h4, h5⟩ := ih _ _ _ _ _ h h3
      exact ⟨by omega, h5⟩
    · rw [h1] at h; cases h
theorem rdOp_ok {xs : Bytes} {pos p2 : Nat} {done : List GOp} {o : GOp} (h : rdOp xs pos done = .ok o p2) (hn : pos ≤ xs.length) : pos < p2 ∧ p2 ≤ xs.length := by
  rw [rdOp_eq] at h
  unfold rdByte at h
  split at h
  · rename_i hlt
    simp only [Rd.bind] at h
    split at h
    · cases h
    · rcases h1 : rdText xs (pos + 1) with ⟨s, p1⟩ | ⟨w, a⟩
      · rw [h1] at h
        obtain ⟨h2, h3, _⟩ := rdText_ok h1 (by omega)
        simp only at h
        rcases h4 : foldFld xs (hasF xs[pos].toNat) p1 pos (key0 xs[pos] s) with ⟨r, p3⟩ | ⟨w, a⟩
        · rw [h4] at h
          obtain ⟨h5, h6⟩ := foldFld_ok _ _ _ _ _ _ h4 h3
          simp only at h
          split at h
          · cases h
          · cases h
            exact ⟨by omega, h6⟩
        · rw [h4] at h; cases h
      · rw [h1] at h; cases h
  · cases h
theorem opGet_any (p g : Nat) (xs : Bytes) (w : World) (n0 : Nat) (hI : InB w p g xs n0 .nilIface) (hn : n0 ≤ xs.length) (hz : xs.length ≤ 140737488355328) :
    Calls Try.prog 51 #[ptr p] w (GetP w p g xs (rdOps xs n0)) := by
  have hpl := hI.lt
  have hgl : 0 < xs.length → g < w.heap.size := fun h0 => by
    obtain ⟨v, _, hr, _⟩ := hI
    obtain ⟨_, _, _, _, _, hlt', _⟩ := hr.at_ h0
    exact hlt'
  have HGL := Lib.hid hgl; clear hgl
  have hnum : Calls Try.prog 65 #[ptr p, .int .u64 1024] w _ := inNumber_any 1024 p g xs w n0 hI hn (by omega)
  have HN := Lib.hid hnum; clear hnum
  have HOK := Lib.hid (fun x pos (h : rdNum xs n0 1024 = .ok x pos) => rdNum_ok h hn)
  have HR : Hid (rdOps xs n0 = (rdNum xs n0 1024).bind fun n p => rdList xs n p []) := Lib.hid rfl
  have HZ := Lib.hid hz; clear hz
  generalize rdNum xs n0 1024 = r at HN HOK HR
  go_enter Try.func51, Try.ntmps51
  go_wp2_with fail
  refine HN.out.mono ?_
  cases r with
  | bad why at_ =>
    rintro e' w1 ⟨b, rfl, hb, hI1, hm, hbl⟩
    have HB := Lib.hid hb
    have HM := Lib.hid hm
    clear hb hm hI1
    unfold badV
    go_wp2
    go_ret2
    rw [HR.out]
    exact ⟨b, rfl, HB.out, HM.out, hbl⟩
  | ok n p1 =>
    rintro e' w1 ⟨rfl, hI1, hm⟩
    obtain ⟨hn1, hp0, hp1, _⟩ := HOK.out _ _ rfl
    have HI1 := Lib.hid hI1
    have HM1 := Lib.hid hm
    obtain ⟨R, hR⟩ : ∃ R, rdList xs n p1 [] = R := ⟨_, rfl⟩
    have HRR := Lib.hid hR
    have HR2 : Hid (rdOps xs n0 = R) := Lib.hid (by rw [HR.out, ← hR]; rfl)
    clear hI1 hm HOK HN hR HR
    go_wp2_with fail
    go_loopw [18, 6] (fun s18 s6 wr => ∃ (i pos : Nat) (done : List GOp) (A : Option Addr) (cap : Nat), s18 = .int .u64 (i : Int) ∧ s6 = .slice A done.length cap ∧ i ≤ n ∧ Hid (done.length = i) ∧ Hid (OwnO wr (.slice A done.length cap) done) ∧ Hid (InB wr p g xs (pos : Int) .nilIface) ∧ pos ≤ xs.length ∧ Hid (Mod [p] w wr) ∧ Hid (∀ b ∈ blks (.slice A done.length cap), w.heap.size ≤ b) ∧ Hid (rdList xs (n - i) pos done = R)) (fun s _ _ => n - (intOf s).toNat)
    case atStart => exact ⟨0, p1, [], none, 0, rfl, rfl, by omega, Lib.hid rfl, Lib.hid (OwnO.nil _), HI1, hp1, HM1, Lib.hid (by simp [blks, Value.ownBlock]), HRR⟩
    case round =>
      obtain ⟨i, pos, done, A, cap, rfl, rfl, hi, HDL, HO, HI, hpos, HM, HF, HL⟩ := hrel
      clear HI1 HM1 HRR
      by_cases hil : i < n
      · obtain ⟨gd, hod, hgd'⟩ := HO.out.os
        have hone := opOne_any done gd _ p g xs wr pos HI.out hpos HZ.out hod (fun h0 hp => by have := HF.out gd (hgd' h0); omega)
        have HONE := Lib.hid hone
        have hL := HL.out
        rw [show n - i = (n - i - 1) + 1 by omega] at hL
        unfold rdList at hL
        have HOK := Lib.hid (fun o p2 (h : rdOp xs pos done = .ok o p2) => rdOp_ok h hpos)
        clear hone hod hgd' HL
        generalize rdOp xs pos done = r3 at HONE hL HOK
        have HL := Lib.hid hL
        clear hL
        go_wp2_with fail
        refine HONE.out.mono ?_
        cases r3 with
        | bad why at_ =>
          rintro e' w2 ⟨b, rfl, hb, hm2, hbl⟩
          have HR3 : Hid (rdOps xs n0 = .bad why at_) := Lib.hid (by rw [HR2.out, ← HL.out]; rfl)
          have HB := Lib.hid hb
          have HM2 := Lib.hid (HM.out.trans hm2)
          have hb0 : w.heap.size ≤ b := by have := HM.out.size; omega
          clear hb hm2 hbl
          unfold badV
          go_wp2_with (first | ((with_reducible refine wpList_alloc_op rfl ?hgd ?_); (case hgd => exact rfl); intro q w3 hq3 hm3 hq1 hq2; have HQ3 := Lib.hid hq3; have HM3 := Lib.hid hm3; clear hq3 hm3) | ((with_reducible refine wpList_store_opV (o := GOp.zero) _ _ rfl ?hgd ?hx ?hy HQ3.out ?_); (case hgd => exact rfl); (case hx => exact rfl); (case hy => exact rfl); intro w4 hv4 hm4; have HM4 : Hid (Mod [] w2 w4) := Lib.hid (HM3.out.then hm4 (by simp; omega)); clear hv4 hm4))
          go_ret2
          rw [HR3.out]
          exact ⟨b, rfl, Blk.mod HB.out HM4.out (by simp), HM2.out.trans (HM4.out.mono (by simp)), hb0⟩
        | ok o p2 =>
          rintro e' w2 ⟨rfl, hI2, hm2⟩
          have hp2 := (HOK.out o p2 rfl).2
          have HL2 : Hid (rdList xs (n - (i + 1)) p2 (done ++ [o]) = R) := Lib.hid (by rw [show n - (i + 1) = n - i - 1 by omega]; exact HL.out)
          have HI2 := Lib.hid hI2
          have HM2 := Lib.hid (HM.out.trans hm2)
          have HO2 : Hid (OwnO w2 (.slice A done.length cap) done) := Lib.hid (HO.out.mod hm2 (fun b hb => by have := HF.out b hb; simp; omega))
          have hil2 : i < 1024 := by omega
          have HI8 : Hid (done.length ≤ 1024) := Lib.hid (by have := HDL.out; omega)
          clear hI2 hm2 HOK HONE HL HO HI HM
          go_wp2_with (first | ((with_reducible refine wpList_alloc_op rfl ?hgd ?_); (case hgd => exact rfl); intro q w3 hq3 hm3 hq1 hq2; have HQ3 := Lib.hid hq3; have HM3 := Lib.hid hm3; clear hq3 hm3) | ((with_reducible refine wpList_store_opV (o := o) _ _ rfl ?hgd ?hx ?hy HQ3.out ?_); (case hgd => exact rfl); (case hx => exact rfl); (case hy => exact rfl); intro w4 hv4 hm4; have HQ4 : Hid (OpAt w4 q 0 o) := Lib.hid (CellsAt.of_blk hv4); have HM4 : Hid (Mod [] w2 w4) := Lib.hid (HM3.out.then hm4 (by simp; omega)); clear hv4 hm4) | ((with_reducible refine wpList_load_op _ rfl ?hgd HQ4.out ?hx ?_); (case hgd => exact rfl); (case hx => exact rfl)) | ((with_reducible refine wpList_buildSlice_op (o := o) _ rfl ?hgd ?hx ?_); (case hgd => exact rfl); (case hx => exact rfl); intro g5 w5 hs5 hm5 hg5 hg6; have HS5 := Lib.hid hs5; have HM5 : Hid (Mod [] w2 w5) := Lib.hid (HM4.out.trans hm5); have HO5 := Lib.hid (HO2.out.mod HM5.out (by simp)); clear hs5 hm5) | (at_builtin; refine wpList_append_ops rfl _ _ rfl HO5.out rfl HS5.out rfl ?_ ?hz; intro A6 n6 cap6 w6 ho6 HN6 hm6 HF6; have HO6 := Lib.hid ho6; have HM6 := Lib.hid hm6; clear ho6 hm6))
          case hz => have := HI8.out; simp; omega
          obtain ⟨A7, cap7, he7, _, _⟩ := HO6.out.val
          injection he7 with hA hn hc
          subst hA hn hc
          go_roundw
          case rel =>
            have hm6 : Mod [p] w w6 := (HM2.out.trans (HM5.out.mono (by simp))).then HM6.out (fun b hb => .inr (HF.out b hb))
            refine ⟨i + 1, p2, done ++ [o], _, _, by go_num, rfl, by omega, Lib.hid (by have := HDL.out; simp; omega), HO6, Lib.hid ((HI2.out.mod HM5.out (by simp) (by simp)).mod HM6.out (fun hb => by have := HF.out _ hb; omega) (fun h0 hb => by have := HF.out _ hb; have := HGL.out h0; omega)), hp2, Lib.hid hm6, Lib.hid (fun b hb => ?_), HL2⟩
            rcases HF6.out b hb with h | h
            · exact HF.out b h
            · have := HM2.out.size; have := HM5.out.size; omega
          case measure => simp [intOf]; omega
      · have hie : i = n := by omega
        subst hie
        have HR3 : Hid (rdOps xs n0 = .ok done pos) := Lib.hid (by rw [HR2.out, ← HL.out, Nat.sub_self]; rfl)
        clear HL HR2
        go_wp2
        go_ret2
        rw [HR3.out]
        exact ⟨A, _, cap, rfl, HO.out, HI.out, HM.out, HF.out⟩
def errV (why at_ : Int) : Value := .agg #[.int .i64 why, .int .i64 at_]
theorem rtErr : RowT Try.prog 36 2 := ⟨_, Try.underlying36, rfl, by kernel_rfl⟩
end Go.Proofs.Ytlpjeckhejbkkaa
