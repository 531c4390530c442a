import Derived.Test.YtlpjeckhejbkkaaNVal
import Derived.Test.YtlpjeckhejbkkaaPuts
set_option linter.unusedVariables false
set_option linter.unusedSimpArgs false
set_option maxRecDepth 20000
set_option maxHeartbeats 1600000
namespace Go.Proofs.Ytlpjeckhejbkkaa
open Go.RowKit

theorem checkNode_zero {n : GNode} (h : checkNode n = 0) : (1 ≤ n.author ∧ n.author ≤ 8) ∧ (1 ≤ n.clock ∧ n.clock ≤ 4096) ∧ n.parents.length ≤ 64 ∧ risingFrom [] n.parents = true ∧ (checkOps n.ops).1 = 0 := by
  unfold checkNode at h
  split at h
  · cases h
  split at h
  · cases h
  split at h
  · cases h
  rename_i h1 h2 h3
  refine ⟨by omega, by omega, by omega, ?_, h⟩
  cases hr : risingFrom [] n.parents with
  | true => rfl
  | false => exact absurd (.inr hr) h3
/-- what is laid of a transaction -/
def LayS (w : World) (p : Nat) (F : List Nat) (Z : Bytes) (wr : World) : Prop := OutB wr p F Z ∧ Mod [] w wr ∧ ∀ b ∈ F, w.heap.size ≤ b
theorem LayS.step {w wr w' : World} {p : Nat} {F : List Nat} {Z Z' : Bytes} {e : Ending} (h : LayS w p F Z wr) (hp : OutP wr p F Z' e w') : e = .returned (.tuple #[]) ∧ ∃ F', LayS w p F' Z' w' := by
  obtain ⟨he, F', hO, hm, hf⟩ := hp
  exact ⟨he, F', hO, h.2.1.then hm (fun b hb => .inr (h.2.2 b hb)), fun b hb => (hf b hb).elim (h.2.2 b) (fun h1 => Nat.le_trans h.2.1.size h1)⟩
theorem LayS.mod {w wr w' : World} {p : Nat} {F S : List Nat} {Z : Bytes} (h : LayS w p F Z wr) (hm : Mod S wr w') (hS : ∀ b ∈ S, wr.heap.size ≤ b) : LayS w p F Z w' :=
  ⟨h.1.mod hm (fun b hb h1 => by have := hS b h1; have := h.1.all b hb; omega), h.2.1.then hm (fun b hb => .inr (by have := hS b hb; have := h.2.1.size; omega)), h.2.2⟩
def LayN (w : World) (p : Nat) (F : List Nat) (Z : Bytes) (q : Nat) (au cl : Int) (pv ov : Value) (wr : World) : Prop := LayS w p F Z wr ∧ NodB wr q au cl pv ov ∧ q ∉ F
theorem LayN.step {w wr w' : World} {p q : Nat} {F : List Nat} {Z Z' : Bytes} {au cl : Int} {pv ov : Value} {e : Ending} (h : LayN w p F Z q au cl pv ov wr) (hp : OutP wr p F Z' e w') : e = .returned (.tuple #[]) ∧ ∃ F', LayN w p F' Z' q au cl pv ov w' := by
  obtain ⟨he, F', hO, hm, hf⟩ := hp
  refine ⟨he, F', ⟨hO, h.1.2.1.then hm (fun b hb => .inr (h.1.2.2 b hb)), fun b hb => (hf b hb).elim (h.1.2.2 b) (fun h1 => Nat.le_trans h.1.2.1.size h1)⟩, h.2.1.mod hm h.2.2, fun hq => ?_⟩
  rcases hf q hq with h1 | h1
  · exact h.2.2 h1
  · have := h.2.1.lt; omega
theorem LayN.mod {w wr w' : World} {p q : Nat} {F S : List Nat} {Z : Bytes} {au cl : Int} {pv ov : Value} (h : LayN w p F Z q au cl pv ov wr) (hm : Mod S wr w') (hS : ∀ b ∈ S, wr.heap.size ≤ b) : LayN w p F Z q au cl pv ov w' :=
  ⟨h.1.mod hm hS, h.2.1.mod hm (fun hq => by have := hS q hq; have := h.2.1.lt; omega), h.2.2⟩
/-- in memory of its own, behind all that was -/
def NewB (w : World) (xs : Bytes) (e' : Ending) (w' : World) : Prop := ∃ v, e' = .returned v ∧ OwnB w' v xs ∧ Mod [] w w' ∧ ∀ b ∈ blks v, w.heap.size ≤ b
theorem flatH_length (l : List GHash) : (l.flatMap GHash.l).length = l.length * 32 := flat_length GHash.l 32 (fun h => h.h) l
theorem lay_node_any (n : GNode) (gp go : Nat) (pv ov : Value) (w : World) (h : NodR w n gp go pv ov) (h0 : checkNode n = 0) (hn : ∀ o ∈ n.ops, o.nums) :
    Calls Try.prog 25 #[nodeV n.author n.clock pv ov] w (NewB w (nodeBlock n)) := by
  obtain ⟨hp, hos⟩ := h
  obtain ⟨A, cap, rfl, hc1, hc2⟩ := hp.val
  obtain ⟨ha, hcl, hpl, _, hck⟩ := checkNode_zero h0
  have hol := putOps_length n.ops hck hn
  unfold maxLen at hc2
  have HP := Lib.hid hp; clear hp
  have HO := Lib.hid hos; clear hos
  have HCK := Lib.hid hck; clear hck
  have HN := Lib.hid hn; clear hn
  obtain ⟨au, cl, ps, os⟩ := n
  dsimp only at *
  clear h0
  obtain ⟨a, rfl⟩ : ∃ a : Nat, au = a := ⟨au.toNat, by omega⟩
  obtain ⟨c, rfl⟩ : ∃ c : Nat, cl = c := ⟨cl.toNat, by omega⟩
  have HBLK : Hid (nodeBlock ⟨a, c, ps, os⟩ = [] ++ [1] ++ [UInt8.ofNat a] ++ putNum c ++ putNum ps.length ++ ps.flatMap GHash.l ++ putOps os) := Lib.hid (by simp [nodeBlock])
  have HL1 : Hid ((putNum c).length ≤ 10 ∧ (putNum ps.length).length ≤ 10) := Lib.hid ⟨putNum_length10 _ (by omega), putNum_length10 _ (by omega)⟩
  generalize nodeBlock ⟨a, c, ps, os⟩ = B at *
  go_enter Try.func25, Try.ntmps25
  go_wp2_with (first | ((with_reducible refine wpList_box_node _ rfl ?hgd (au := (a : Int)) (cl := (c : Int)) (pv := .slice A ps.length cap) (ov := ov) ?hx ?_); (case hgd => exact rfl); (case hx => exact rfl); intro q1 w1 hv1 hm1 hq1 hl1; have HV1 := Lib.hid hv1; have HM1 := Lib.hid hm1; clear hv1 hm1))
  refine (newOut_any w1).mono ?_
  rintro e' w2 ⟨rfl, hO2, hm2⟩
  obtain ⟨p, hpe⟩ : ∃ p, w1.heap.size = p := ⟨_, rfl⟩
  have HL2 : Hid (LayN w p [p] [] q1 a c (.slice A ps.length cap) ov w2) := Lib.hid (by rw [← hpe]; exact ⟨⟨hO2, HM1.out.trans hm2, by have := HM1.out.size; simp; omega⟩, HV1.out.mod hm2 (by simp), by simp; omega⟩)
  rw [hpe]
  clear hO2 hm2 hpe HV1 HM1
  generalize [p] = F2 at *
  go_wp2_with fail
  refine (outByte_any p F2 [] 1 1 rfl w2 HL2.out.1.1 (by simp)).mono ?_
  rintro e' w3 hp3
  obtain ⟨rfl, F3, hp3'⟩ := HL2.out.step hp3
  have HL3 := Lib.hid hp3'
  clear hp3 hp3' HL2
  obtain ⟨c0, c1, c2, c3, _⟩ := HL3.out.2.1.open_
  have hwa : IntKind.u8.wrap (a : Int) = (a : Int) := by rw [IntKind.wrap_u8]; omega
  go_wp2_with fail
  refine (outByte_any p F3 _ (UInt8.ofNat a) a (by simp; omega) w3 HL3.out.1.1 (by simp)).mono ?_
  rintro e' w4 hp4
  obtain ⟨rfl, F4, hp4'⟩ := HL3.out.step hp4
  have HL4 := Lib.hid hp4'
  clear hp4 hp4' HL3 c0 c1 c2 c3 hwa
  obtain ⟨c0, c1, c2, c3, _⟩ := HL4.out.2.1.open_
  go_wp2_with fail
  refine (outNumber_any p F4 _ c w4 HL4.out.1.1 (by omega) (by simp)).mono ?_
  rintro e' w5 hp5
  obtain ⟨rfl, F5, hp5'⟩ := HL4.out.step hp5
  have HL5 := Lib.hid hp5'
  clear hp5 hp5' HL4 c0 c1 c2 c3
  obtain ⟨c0, c1, c2, c3, _⟩ := HL5.out.2.1.open_
  go_wp2_with fail
  refine (outNumber_any p F5 _ ps.length w5 HL5.out.1.1 (by omega) (by have := HL1.out.1; simp; omega)).mono ?_
  rintro e' w6 hp6
  obtain ⟨rfl, F6, hp6'⟩ := HL5.out.step hp6
  have HL6 := Lib.hid hp6'
  clear hp6 hp6' HL5 c0 c1 c2 c3
  obtain ⟨c0, c1, c2, c3, _⟩ := HL6.out.2.1.open_
  obtain ⟨Z, hZ⟩ : ∃ Z, [] ++ [1] ++ [UInt8.ofNat a] ++ putNum c ++ putNum ps.length = Z := ⟨_, rfl⟩
  have HZL : Hid (Z.length ≤ 22) := Lib.hid (by rw [← hZ]; have := HL1.out; simp; omega)
  rw [hZ] at HL6 HBLK
  clear hZ HL1
  go_wp2_with fail
  have HGP : Hid (0 < ps.length → gp < w.heap.size) := Lib.hid (fun h0 => by obtain ⟨_, _, _, _, _, hl', _⟩ := HP.out.at_ h0; exact hl')
  have HGO : Hid (0 < os.length → go < w.heap.size) := Lib.hid (fun h0 => by obtain ⟨_, _, _, _, _, hl', _⟩ := HO.out.at_ h0; exact hl')
  clear c0 c1 c2 c3
  go_loopw [28] (fun s28 wr => ∃ (i : Nat) (F : List Nat), s28 = .int .i64 (i : Int) ∧ i ≤ ps.length ∧ Hid (LayN w p F (Z ++ (ps.take i).flatMap GHash.l) q1 a c (.slice A ps.length cap) ov wr)) (fun s _ => ps.length - (intOf s).toNat)
  case atStart => exact ⟨0, F6, rfl, by omega, Lib.hid (by simpa using HL6.out)⟩
  case round =>
    obtain ⟨i, F, rfl, hi, HL⟩ := hrel
    clear HL6
    by_cases hil : i < ps.length
    · obtain ⟨off, cap', hv', _, _, _, hit⟩ := HS.item (HP.out.mod HL.out.1.2.1 (by simp)) (by omega)
      injection hv' with hA _ hcap
      subst hA
      subst hcap
      have HJ := Lib.hid (hit i hil)
      clear hit
      obtain ⟨h, hh⟩ : ∃ h, ps[i] = h := ⟨_, rfl⟩
      have HTK : Hid (ps.take (i + 1) = ps.take i ++ [h]) := Lib.hid (by rw [List.take_succ_eq_append_getElem hil, hh])
      rw [hh] at HJ
      clear hh
      have hlen : (Z ++ (ps.take i).flatMap GHash.l).length ≤ 2100 := by
        rw [List.length_append, flatH_length, List.length_take]
        have := HZL.out
        omega
      have HLEN := Lib.hid hlen
      clear hlen
      go_wp2_with (first | ((with_reducible refine wpList_load_hash _ rfl ?hgd HJ.out ?hx ?_); (case hgd => exact rfl); (case hx => exact rfl)) | ((with_reducible refine wpList_store_hashN (o := h) _ _ rfl ?hgd ?hx ?hy (Blk.new _ _ _) ?hold ?_); (case hgd => exact rfl); (case hx => exact rfl); (case hy => exact rfl); (case hold => exact rfl); intro w7 hb7 hm7; have HH7 : Hid (HashAt w7 wr.heap.size 0 h) := Lib.hid (CellsAt.of_blk hb7); have HL7 := Lib.hid (HL.out.mod (((Mod.refl [] wr).alloc _).then hm7 (by simp) : Mod [] wr w7) (by simp)); clear hb7 hm7) | ((with_reducible refine wpList_load_hash _ rfl ?hgd HH7.out ?hx ?_); (case hgd => exact rfl); (case hx => exact rfl)))
      refine (outHash_any p F _ h w7 HL7.out.1.1 (by have := HLEN.out; omega)).mono ?_
      rintro e' w8 hp8
      obtain ⟨rfl, F8, hp8'⟩ := HL7.out.step hp8
      have HL8 : Hid (LayN w p F8 (Z ++ (ps.take (i + 1)).flatMap GHash.l) q1 a c (.slice (some ⟨gp, off, none⟩) ps.length cap) ov w8) := Lib.hid (by rw [HTK.out]; simpa using hp8')
      clear hp8 hp8' HL7 HL HH7
      go_wp2_with fail
      go_roundw
      case rel => exact ⟨i + 1, F8, by go_num, by omega, HL8⟩
      case measure => simp [intOf]; omega
    · have hie : i = ps.length := by omega
      subst hie
      rw [List.take_length] at HL
      obtain ⟨c0, c1, c2, c3, _⟩ := HL.out.2.1.open_
      have hzl : (Z ++ ps.flatMap GHash.l).length ≤ 2100 := by
        rw [List.length_append, flatH_length]
        have := HZL.out
        omega
      have HZ2 := Lib.hid hzl
      have HPUT := Lib.hid (put_any os go _ p F _ wr HL.out.1.1 (HO.out.mod HL.out.1.2.1 (by simp)) (fun h0 hb => by have := HGO.out h0; have := HL.out.1.2.2 _ hb; omega) HN.out (by omega))
      clear hzl
      go_wp2_with fail
      refine HPUT.out.mono ?_
      rintro e' w8 ⟨rfl, F8, hO8, hm8, hf8⟩
      rw [if_pos HCK.out, ← HBLK.out] at hO8
      have hLS : LayS w p F8 B w8 := ⟨hO8, HL.out.1.2.1.then hm8 (fun b hb => .inr (HL.out.1.2.2 b hb)), fun b hb => (hf8 b hb).elim (HL.out.1.2.2 b) (fun h1 => Nat.le_trans HL.out.1.2.1.size h1)⟩
      have HL8 := Lib.hid hLS
      have HDN := Lib.hid (outDone_any p F8 _ w8 hO8 (by rw [HBLK.out, List.length_append]; have := HZ2.out; omega))
      clear hO8 hm8 hf8 hLS HL HPUT c0 c1 c2 c3
      go_wp2_with fail
      refine HDN.out.mono ?_
      rintro e' w9 ⟨v9, rfl, hown9, hm9, hf9⟩
      obtain ⟨A9, cap9, rfl, _, _⟩ := hown9.val
      have HOWN := Lib.hid hown9
      have HM9 := Lib.hid (HL8.out.2.1.trans hm9)
      have HF9 := Lib.hid (fun b hb => Nat.le_trans HL8.out.2.1.size (hf9 b hb))
      clear hown9 hm9 hf9
      go_wp2_with fail
      go_ret
      exact ⟨_, rfl, HOWN.out, HM9.out, HF9.out⟩
/-! ### a transaction's block, and its size -/
theorem nodeBlock_length {n : GNode} (h0 : checkNode n = 0) (hn : ∀ o ∈ n.ops, o.nums) : (nodeBlock n).length ≤ 307300000 := by
  obtain ⟨ha, hcl, hpl, _, hck⟩ := checkNode_zero h0
  have h1 := putOps_length n.ops hck hn
  have h2 := putNum_length10 n.clock.toNat (by omega)
  have h3 := putNum_length10 n.parents.length (by omega)
  unfold nodeBlock
  rw [List.length_cons, List.length_cons, List.length_append, List.length_append, List.length_append, flatH_length]
  omega
def encOf (n : GNode) : Bytes × Nat := if checkNode n = 0 then (if 1048576 < (nodeBlock n).length then ([], 4) else (nodeBlock n, 0)) else ([], checkNode n)
def sizeOf_ (n : GNode) : Nat := if checkNode n = 0 then (nodeBlock n).length else 0
def EncP (w : World) (r : Bytes × Nat) (e' : Ending) (w' : World) : Prop := ∃ v, e' = .returned (.tuple #[v, .int .i64 r.2]) ∧ OwnB w' v r.1 ∧ Mod [] w w' ∧ ∀ b ∈ blks v, w.heap.size ≤ b
theorem blks_nil {w n c : Nat} : ∀ b ∈ blks (.slice none n c), w ≤ b := by intro b hb; simp [blks, Value.ownBlock] at hb
theorem encode_any (n : GNode) (gp go : Nat) (pv ov : Value) (w : World) (h : NodR w n gp go pv ov) (hn : ∀ o ∈ n.ops, o.nums) :
    Calls Try.prog 10 #[nodeV n.author n.clock pv ov] w (EncP w (encOf n)) := by
  have HR := Lib.hid h; clear h
  have HCH : Hid (∀ W, Mod [] w W → Calls Try.prog 15 #[nodeV n.author n.clock pv ov] W fun e w' => e = .returned (.int .i64 (checkNode n)) ∧ Mod [] W w') := Lib.hid (fun W hW => nodeCheck_any n gp go pv ov W (HR.out.mod0 hW))
  have HLY : Hid (∀ W, Mod [] w W → checkNode n = 0 → Calls Try.prog 25 #[nodeV n.author n.clock pv ov] W (NewB W (nodeBlock n))) := Lib.hid (fun W hW h0 => lay_node_any n gp go pv ov W (HR.out.mod0 hW) h0 hn)
  have HBL : Hid (checkNode n = 0 → (nodeBlock n).length ≤ 307300000) := Lib.hid (fun h0 => nodeBlock_length h0 hn)
  clear HR hn
  have HE1 : Hid (checkNode n = 0 → 1048576 < (nodeBlock n).length → encOf n = ([], 4)) := Lib.hid (fun h h' => by unfold encOf; rw [if_pos h, if_pos h'])
  have HE2 : Hid (checkNode n = 0 → ¬ 1048576 < (nodeBlock n).length → encOf n = (nodeBlock n, 0)) := Lib.hid (fun h h' => by unfold encOf; rw [if_pos h, if_neg h'])
  have HE3 : Hid (checkNode n ≠ 0 → encOf n = ([], checkNode n)) := Lib.hid (fun h => by unfold encOf; rw [if_neg h])
  generalize encOf n = r at *
  generalize nodeBlock n = B at *
  generalize checkNode n = c at *
  generalize n.author = au at *
  generalize n.clock = cl at *
  go_enter Try.func10, Try.ntmps10
  go_wp2_with (first | ((with_reducible refine wpList_box_node _ rfl ?hgd (au := au) (cl := cl) (pv := pv) (ov := ov) ?hx ?_); (case hgd => exact rfl); (case hx => exact rfl); intro q1 w1 hv1 hm1 hq1 hl1; have HV1 := Lib.hid hv1; obtain ⟨_, _, _, _, HC⟩ := hv1.open_; have HM1 := Lib.hid hm1; clear hv1 hm1) | ((with_reducible refine wpList_load_node _ rfl ?hgd HC.out ?hx ?_); (case hgd => exact rfl); (case hx => exact rfl)))
  refine (HCH.out w1 HM1.out).mono ?_
  rintro e' w2 ⟨rfl, hm2⟩
  have HM2 := Lib.hid (HM1.out.trans hm2)
  obtain ⟨_, _, _, _, HC2⟩ := (HV1.out.mod hm2 (by simp)).open_
  clear hm2 HM1 HV1 HCH
  by_cases h0 : c = 0
  · subst h0
    have hcc : (((0 : Nat) : Int) == 0) = true := rfl
    have HBL2 := Lib.hid (HBL.out rfl)
    have HLY2 := Lib.hid (HLY.out w2 HM2.out rfl)
    have HF1 := Lib.hid (HE1.out rfl)
    have HF2 := Lib.hid (HE2.out rfl)
    clear HBL HLY HE1 HE2 HE3
    go_wp2_with (first | ((with_reducible refine wpList_load_node _ rfl ?hgd HC2.out ?hx ?_); (case hgd => exact rfl); (case hx => exact rfl)))
    refine HLY2.out.mono ?_
    rintro e' w3 ⟨v3, rfl, hown, hm3, hf3⟩
    obtain ⟨A3, cap3, rfl, hx1, hx2⟩ := hown.val
    unfold maxLen at hx2
    have HOWN := Lib.hid hown
    have HM3 := Lib.hid (HM2.out.trans hm3)
    have HF3 := Lib.hid (fun b hb => Nat.le_trans HM2.out.size (hf3 b hb))
    clear hown hm3 hf3 HLY2
    by_cases hbig : 1048576 < B.length
    · have HB := Lib.hid hbig
      have hbi : (1048576 : Int) < B.length := by omega
      go_wp2_with fail
      go_ret2
      rw [HF1.out HB.out]
      exact ⟨_, rfl, OwnB.nil _, HM3.out, blks_nil⟩
    · have HB := Lib.hid hbig
      have hbi : ¬ ((1048576 : Int) < B.length) := by omega
      go_wp2_with fail
      go_ret2
      rw [HF2.out HB.out]
      exact ⟨_, rfl, HOWN.out, HM3.out, HF3.out⟩
  · have hcc : (((c : Nat) : Int) == 0) = false := by simp; omega
    have hcn : ¬ ((c : Int) = 0) := by omega
    have H0 := Lib.hid h0
    clear HBL HLY
    go_wp2_with (first | ((with_reducible refine wpList_load_node _ rfl ?hgd HC2.out ?hx ?_); (case hgd => exact rfl); (case hx => exact rfl)))
    go_ret2
    rw [HE3.out H0.out]
    exact ⟨_, rfl, OwnB.nil _, HM2.out, blks_nil⟩
theorem nodeSize_any (n : GNode) (gp go : Nat) (pv ov : Value) (w : World) (h : NodR w n gp go pv ov) (hn : ∀ o ∈ n.ops, o.nums) :
    Calls Try.prog 17 #[nodeV n.author n.clock pv ov] w fun e w' => e = .returned (.int .i64 (sizeOf_ n)) ∧ Mod [] w w' := by
  have HR := Lib.hid h; clear h
  have HCH : Hid (∀ W, Mod [] w W → Calls Try.prog 15 #[nodeV n.author n.clock pv ov] W fun e w' => e = .returned (.int .i64 (checkNode n)) ∧ Mod [] W w') := Lib.hid (fun W hW => nodeCheck_any n gp go pv ov W (HR.out.mod0 hW))
  have HLY : Hid (∀ W, Mod [] w W → checkNode n = 0 → Calls Try.prog 25 #[nodeV n.author n.clock pv ov] W (NewB W (nodeBlock n))) := Lib.hid (fun W hW h0 => lay_node_any n gp go pv ov W (HR.out.mod0 hW) h0 hn)
  clear HR hn
  have HE1 : Hid (checkNode n = 0 → sizeOf_ n = (nodeBlock n).length) := Lib.hid (fun h => by unfold sizeOf_; rw [if_pos h])
  have HE3 : Hid (checkNode n ≠ 0 → sizeOf_ n = 0) := Lib.hid (fun h => by unfold sizeOf_; rw [if_neg h])
  generalize sizeOf_ n = r at *
  generalize nodeBlock n = B at *
  generalize checkNode n = c at *
  generalize n.author = au at *
  generalize n.clock = cl at *
  go_enter Try.func17, Try.ntmps17
  go_wp2_with (first | ((with_reducible refine wpList_box_node _ rfl ?hgd (au := au) (cl := cl) (pv := pv) (ov := ov) ?hx ?_); (case hgd => exact rfl); (case hx => exact rfl); intro q1 w1 hv1 hm1 hq1 hl1; have HV1 := Lib.hid hv1; obtain ⟨_, _, _, _, HC⟩ := hv1.open_; have HM1 := Lib.hid hm1; clear hv1 hm1) | ((with_reducible refine wpList_load_node _ rfl ?hgd HC.out ?hx ?_); (case hgd => exact rfl); (case hx => exact rfl)))
  refine (HCH.out w1 HM1.out).mono ?_
  rintro e' w2 ⟨rfl, hm2⟩
  have HM2 := Lib.hid (HM1.out.trans hm2)
  obtain ⟨_, _, _, _, HC2⟩ := (HV1.out.mod hm2 (by simp)).open_
  clear hm2 HM1 HV1 HCH
  by_cases h0 : c = 0
  · subst h0
    have hcc : (((0 : Nat) : Int) == 0) = true := rfl
    have HLY2 := Lib.hid (HLY.out w2 HM2.out rfl)
    have HF1 := Lib.hid (HE1.out rfl)
    clear HLY HE1 HE3
    go_wp2_with (first | ((with_reducible refine wpList_load_node _ rfl ?hgd HC2.out ?hx ?_); (case hgd => exact rfl); (case hx => exact rfl)))
    refine HLY2.out.mono ?_
    rintro e' w3 ⟨v3, rfl, hown, hm3, hf3⟩
    obtain ⟨A3, cap3, rfl, hx1, hx2⟩ := hown.val
    have HM3 := Lib.hid (HM2.out.trans hm3)
    clear hown hm3 hf3 HLY2
    go_wp2_with fail
    go_ret
    rw [HF1.out]
    exact ⟨rfl, HM3.out⟩
  · have hcc : (((c : Nat) : Int) == 0) = false := by simp; omega
    have hcn : ¬ ((c : Int) = 0) := by omega
    have H0 := Lib.hid h0
    clear HLY
    go_wp2_with (first | ((with_reducible refine wpList_load_node _ rfl ?hgd HC2.out ?hx ?_); (case hgd => exact rfl); (case hx => exact rfl)))
    go_ret
    rw [HE3.out H0.out]
    exact ⟨rfl, HM2.out⟩
end Go.Proofs.Ytlpjeckhejbkkaa
