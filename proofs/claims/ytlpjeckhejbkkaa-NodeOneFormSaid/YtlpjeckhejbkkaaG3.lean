import Derived.Test.YtlpjeckhejbkkaaG2
import Derived.Lib.ConvBytes
section
set_option linter.unusedVariables false
set_option linter.unusedSimpArgs false
set_option maxRecDepth 20000
set_option maxHeartbeats 400000
namespace Go.Proofs.Ytlpjeckhejbkkaa
open Go.RowKit

/-- bytes behind others: a slice of the caller's own, grown -/
def AppP (w : World) (v : Value) (zs : Bytes) (e : Ending) (w' : World) : Prop :=
  ∃ A n cap, e = .returned (.slice A n cap) ∧ OwnB w' (.slice A n cap) zs ∧ Mod (blks v) w w' ∧ Fresh w (blks v) (blks (.slice A n cap))
theorem refNumber_any (v : Value) (xs : Bytes) (x : Nat) (w : World) (hO : OwnB w v xs) (hx : x < 18446744073709551616) (hz : xs.length ≤ 190000000000000) :
    Calls Try.prog 54 #[v, .int .u64 (x : Int)] w (AppP w v (xs ++ putNum x)) := by
  obtain ⟨A0, cap0, rfl, _, _⟩ := hO.val
  have HO := Lib.hid hO; clear hO
  have HX := Lib.hid hx; clear hx
  go_enter Try.func54, Try.ntmps54
  go_wp2
  go_loopw [0, 1] (fun s0 s1 wr => ∃ (y : Nat) (zs : Bytes) (A : Option Addr) (n cap : Nat), s1 = .int .u64 (y : Int) ∧ s0 = .slice A n cap ∧ Hid (y < 18446744073709551616) ∧ Hid (OwnB wr (.slice A n cap) (xs ++ zs)) ∧ Hid (zs ++ putNum y = putNum x) ∧ Hid (Mod (blks (.slice A0 xs.length cap0)) w wr) ∧ Hid (Fresh w (blks (.slice A0 xs.length cap0)) (blks (.slice A n cap)))) (fun _ s _ => (intOf s).toNat)
  case atStart => exact ⟨x, [], A0, xs.length, cap0, rfl, rfl, HX, Lib.hid (by simpa using HO.out), Lib.hid (by simp), Lib.hid (Mod.refl _ _), Lib.hid (Fresh.refl _ _)⟩
  case round =>
    obtain ⟨y, zs, A, n, cap, rfl, rfl, HY, HB, HP, HM, HF⟩ := hrel
    have hlen : (xs ++ zs).length ≤ 195000000000000 := by
      have h1 := putNum_length10 x HX.out
      have h2 := congrArg List.length HP.out
      rw [List.length_append] at h2 ⊢
      omega
    have HL := Lib.hid hlen; clear hlen
    by_cases hy : 128 ≤ y
    · have hbits : ((y : Int) % 128 + 128) = ((UInt8.ofNat (y % 128 + 128)).toNat : Int) := by
        have : (UInt8.ofNat (y % 128 + 128)).toNat = y % 128 + 128 := by simp; omega
        rw [this]; omega
      have hw : IntKind.u64.wrap ((y : Int) / 128) = (y : Int) / 128 := by rw [IntKind.wrap_u64]; have := HY.out; omega
      have HS := Lib.hid (bs_one wr 5 hbits); clear hbits
      have ho1 : OwnB (wr.alloc (.cells #[.int .u8 ((y : Int) % 128 + 128)] 5)) (.slice A n cap) (xs ++ zs) := HB.out.mod ((Mod.refl [] wr).alloc _) (by simp)
      have HO0 := Lib.hid ho1; clear ho1
      go_wp2_with (at_builtin; refine wpList_append_bytes rfl _ _ rfl HO0.out rfl HS.out rfl ?_ ?hz; intro A1 n1 cap1 w1 hown1 hn1 hm1 HF1; have hm0 : Mod (blks (.slice A n cap)) wr w1 := ((Mod.refl _ wr).alloc _).trans hm1; have HO2 := Lib.hid hown1; have HM1 := Lib.hid hm0; clear hown1 hm1 hm0)
      case hz => have := HL.out; simp only [List.length_cons, List.length_nil]; omega
      go_roundw
      case rel =>
        refine ⟨y / 128, zs ++ [UInt8.ofNat (y % 128 + 128)], A1, n1, cap1, by go_num, rfl, Lib.hid (by have := HY.out; omega), Lib.hid (by simpa using HO2.out), Lib.hid ?_, Lib.hid (HM.out.fresh HF.out HM1.out), Lib.hid (HF.out.trans (fun b hb => (HF1.out b hb).imp id (by simp; omega)) HM.out.size)⟩
        rw [← HP.out, putNum_ge hy]
        simp
      case measure => simp [intOf]; omega
    · have hbits : (y : Int) = ((UInt8.ofNat y).toNat : Int) := by
        have : (UInt8.ofNat y).toNat = y := by simp; omega
        rw [this]
      have HS := Lib.hid (bs_one wr 5 hbits); clear hbits
      have ho1 : OwnB (wr.alloc (.cells #[.int .u8 (y : Int)] 5)) (.slice A n cap) (xs ++ zs) := HB.out.mod ((Mod.refl [] wr).alloc _) (by simp)
      have HO0 := Lib.hid ho1; clear ho1
      go_wp2_with (at_builtin; refine wpList_append_bytes rfl _ _ rfl HO0.out rfl HS.out rfl ?_ ?hz; intro A1 n1 cap1 w1 hown1 hn1 hm1 HF1; have hm0 : Mod (blks (.slice A n cap)) wr w1 := ((Mod.refl _ wr).alloc _).trans hm1; have HO2 := Lib.hid hown1; have HM1 := Lib.hid hm0; clear hown1 hm1 hm0)
      case hz => have := HL.out; simp only [List.length_cons, List.length_nil]; omega
      go_ret
      have e : xs ++ zs ++ [UInt8.ofNat y] = xs ++ putNum x := by rw [← HP.out, putNum_lt (by omega), List.append_assoc]
      refine ⟨A1, n1, cap1, rfl, by rw [← e]; exact HO2.out, HM.out.fresh HF.out HM1.out, HF.out.trans (fun b hb => (HF1.out b hb).imp id (by simp; omega)) HM.out.size⟩
theorem refZig_any (x : Int) (h0 : -9223372036854775808 ≤ x) (h1 : x ≤ 9223372036854775807) (w : World) : Calls Try.prog 72 #[.int .i64 x] w fun e w' => e = .returned (.int .u64 (zig x : Nat)) ∧ w = w' := by
  by_cases hx : 0 ≤ x
  · have hz : ((zig x : Nat) : Int) = 2 * x := by unfold zig; rw [if_pos hx]; omega
    have HZ := Lib.hid hz; clear hz
    go_enter Try.func72, Try.ntmps72
    go_wp2
    go_ret
    refine ⟨ret_int ?_, rfl⟩
    rw [HZ.out]
  · have hz : ((zig x : Nat) : Int) = 2 * (-(x + 1)) + 1 := by unfold zig; rw [if_neg hx]; omega
    have HZ := Lib.hid hz; clear hz
    go_enter Try.func72, Try.ntmps72
    go_wp2
    go_ret
    refine ⟨ret_int ?_, rfl⟩
    rw [HZ.out]
theorem refBytes_any (v : Value) (xs ys : Bytes) (g : Nat) (sv : Value) (w : World) (hO : OwnB w v xs) (hs : BS w g sv ys) (hg : 0 < ys.length → g ∉ blks v) (hz : xs.length + ys.length ≤ 180000000000000) :
    Calls Try.prog 70 #[v, sv] w (AppP w v (xs ++ (putNum ys.length ++ ys))) := by
  obtain ⟨A0, cap0, rfl, _, _⟩ := hO.val
  obtain ⟨B0, capb, rfl, _, _⟩ := hs.val
  have hnum := refNumber_any _ xs ys.length w hO (by omega) (by omega)
  have HN := Lib.hid hnum; clear hnum
  have HL : Hid ((putNum ys.length).length ≤ 10) := Lib.hid (putNum_length10 _ (by omega))
  have HS := Lib.hid hs; clear hs hO
  go_enter Try.func70, Try.ntmps70
  go_wp2_with fail
  refine HN.out.mono ?_
  rintro e' w1 ⟨A1, n1, cap1, rfl, ho1, hm1, hf1⟩
  have HS1 : Hid (BS w1 g _ ys) := Lib.hid (HS.out.mod hm1 hg)
  have HO1 := Lib.hid ho1
  have HM1 := Lib.hid hm1
  have HF1 := Lib.hid hf1
  clear ho1 hm1 hf1
  go_wp2_with (at_builtin; refine wpList_append_bytes rfl _ _ rfl HO1.out rfl HS1.out rfl ?_ ?hz; intro A2 n2 cap2 w2 hown2 hn2 hm2 HF2; have HO2 := Lib.hid hown2; have HM2 := Lib.hid hm2; clear hown2 hm2)
  case hz => have := HL.out; rw [List.length_append]; omega
  go_ret
  exact ⟨A2, n2, cap2, rfl, by rw [← List.append_assoc]; exact HO2.out, HM1.out.fresh HF1.out HM2.out, HF1.out.trans (fun b hb => (HF2.out b hb).imp id (by omega)) HM1.out.size⟩
theorem refHash_any (v : Value) (xs : Bytes) (h : GHash) (w : World) (hO : OwnB w v xs) (hz : xs.length ≤ 180000000000000) :
    Calls Try.prog 55 #[v, h.val] w (AppP w v (xs ++ h.l)) := by
  obtain ⟨A0, cap0, rfl, _, _⟩ := hO.val
  have HO := Lib.hid hO; clear hO
  have hl32 := h.h
  go_enter Try.func55, Try.ntmps55
  go_wp2_with ((with_reducible refine wpList_box (cs := h.cells) _ rfl ?hgd ?hx ?_); (case hgd => exact rfl); (case hx => exact rfl); intro q w1 hv1 hm1 hq1 hl1; have HV1 := Lib.hid hv1; have HM1 := Lib.hid hm1; clear hv1 hm1)
  have HO1 := Lib.hid (HO.out.mod HM1.out (by simp))
  have HQ1 : Hid (q ∉ blks (.slice A0 xs.length cap0)) := Lib.hid (fun hb => by have := HO.out.lt q hb; omega)
  go_loopw [0, 5] (fun s0 s5 wr => ∃ (i : Nat) (A : Option Addr) (n cap : Nat), s5 = .int .i64 (i : Int) ∧ i ≤ 32 ∧ s0 = .slice A n cap ∧ Hid (OwnB wr (.slice A n cap) (xs ++ h.l.take i)) ∧ Hid (Blk wr q 46 h.cells.toArray) ∧ Hid (q ∉ blks (.slice A n cap)) ∧ Hid (Mod (blks (.slice A0 xs.length cap0)) w wr) ∧ Hid (Fresh w (blks (.slice A0 xs.length cap0)) (blks (.slice A n cap)))) (fun _ s _ => 32 - (intOf s).toNat)
  case atStart => exact ⟨0, A0, xs.length, cap0, rfl, by omega, rfl, Lib.hid (by simpa using HO1.out), HV1, HQ1, Lib.hid (HM1.out.mono (by simp)), Lib.hid (Fresh.refl _ _)⟩
  case round =>
    obtain ⟨i, A, n, cap, rfl, hi, rfl, HB, HV, HQ, HM, HF⟩ := hrel
    by_cases hil : i < 32
    · have hc := HV.out.cell i
      have hcv : h.cells.toArray[i]? = some (.int .u8 (h.l[i].toNat : Int)) := by simp [GHash.cells, hl32, hil]
      rw [hcv] at hc
      clear hcv
      obtain ⟨cc, hcc⟩ : ∃ cc, (h.l[i].toNat : Int) = cc := ⟨_, rfl⟩
      rw [hcc] at hc
      have HS := Lib.hid (bs_one wr 5 hcc.symm)
      have ho1 : OwnB (wr.alloc (.cells #[.int .u8 cc] 5)) (.slice A n cap) (xs ++ h.l.take i) := HB.out.mod ((Mod.refl [] wr).alloc _) (by simp)
      have HO0 := Lib.hid ho1
      have HT : Hid (h.l.take (i + 1) = h.l.take i ++ [h.l[i]]) := Lib.hid (List.take_succ_eq_append_getElem (by omega))
      clear ho1 hcc
      go_wp2_with (at_builtin; refine wpList_append_bytes rfl _ _ rfl HO0.out rfl HS.out rfl ?_ ?hz; intro A1 n1 cap1 w2 hown1 hn1 hm1 HF1; have hm0 : Mod (blks (.slice A n cap)) wr w2 := ((Mod.refl _ wr).alloc _).trans hm1; have HO2 := Lib.hid hown1; have HM2 := Lib.hid hm0; clear hown1 hm1 hm0)
      case hz => simp only [List.length_append, List.length_take, List.length_cons, List.length_nil]; omega
      go_roundw
      case rel => exact ⟨i + 1, A1, n1, cap1, by go_num, by omega, rfl, Lib.hid (by rw [HT.out, ← List.append_assoc]; exact HO2.out), Lib.hid (HV.out.mod HM2.out HQ.out), Lib.hid (fun hb => by
        rcases HF1.out q hb with h1 | h1
        · exact HQ.out h1
        · have := HV.out.lt; simp at h1; omega), Lib.hid (HM.out.fresh HF.out HM2.out), Lib.hid (HF.out.trans (fun b hb => (HF1.out b hb).imp id (by simp; omega)) HM.out.size)⟩
      case measure => simp [intOf]; omega
    · have hie : i = 32 := by omega
      subst hie
      go_wp2
      go_ret
      have e : h.l.take 32 = h.l := List.take_of_length_le (by omega)
      exact ⟨A, n, cap, rfl, by have := HB.out; rwa [e] at this, HM.out, HF.out⟩
end Go.Proofs.Ytlpjeckhejbkkaa
end

section
set_option linter.unusedVariables false
set_option linter.unusedSimpArgs false
set_option maxRecDepth 20000
set_option maxHeartbeats 800000
namespace Go.Proofs.Ytlpjeckhejbkkaa
open Go.RowKit

/-- the state while ref04.Put lays one operation -/
def PT (w : World) (v0 : Value) (q g : Nat) (vl : Value) (l : List GOp) (o : GOp) (zs : Bytes) (s : Value) (wr : World) : Prop :=
  OwnB wr s zs ∧ OS wr g vl l ∧ OpV wr q o ∧ Mod (blks v0) w wr ∧ Fresh w (blks v0) (blks s) ∧ (0 < l.length → g ∉ blks s) ∧ q ∉ blks s
theorem PT.app {w wr w' : World} {v0 vl s : Value} {q g : Nat} {l : List GOp} {o : GOp} {zs ys : Bytes} {e : Ending} (h : PT w v0 q g vl l o zs s wr) (hp : AppP wr s ys e w') : ∃ A n cap, e = .returned (.slice A n cap) ∧ PT w v0 q g vl l o ys (.slice A n cap) w' := by
  obtain ⟨h1, h2, h3, h4, h5, h6, h7⟩ := h
  obtain ⟨A, n, cap, he, k1, k2, k3⟩ := hp
  exact ⟨A, n, cap, he, k1, h2.mod k2 h6, h3.mod k2 h7, h4.fresh h5 k2, h5.trans k3 h4.size, h2.not k3 h6, k3.not h7 h3.lt⟩
theorem PT.mod {w wr w' : World} {v0 vl s : Value} {q g : Nat} {l : List GOp} {o : GOp} {zs : Bytes} (h : PT w v0 q g vl l o zs s wr) (hm : Mod [] wr w') : PT w v0 q g vl l o zs s w' := by
  obtain ⟨h1, h2, h3, h4, h5, h6, h7⟩ := h
  exact ⟨h1.mod hm (by simp), h2.mod hm (by simp), h3.mod hm (by simp), h4.trans (hm.mono (by simp)), h5, h6, h7⟩
theorem bytes_mod (w : World) (s : ByteArray) : Mod [] w (Lib.bytesWorld w 5 s) :=
  ⟨rfl, rfl, rfl, by rw [Lib.bytesWorld_size]; omega, fun i hi _ => Lib.bytesWorld_at_old w _ s i hi⟩
theorem bytes_bs (w : World) (s : ByteArray) (hs : s.size ≤ 4611686018427387904) : BS (Lib.bytesWorld w 5 s) w.heap.size (.slice (some ⟨w.heap.size, 0, none⟩) s.size (grownCap w s.size 0 5)) s.data.toList := by
  have e : s.data.toList.length = s.size := rfl
  unfold BS
  rw [e]
  refine ⟨by simp [e], _, _, rfl, grownCap_ge w _ 0 _, grownCap_le_maxLen w _ 0 _ (by unfold maxLen; omega), fun h0 => ⟨0, rfl, by rw [Lib.bytesWorld_size]; omega, fun i u hu => ?_⟩⟩
  have hi : i < s.size := by
    have := (List.getElem?_eq_some_iff.1 hu).1
    simpa [e] using this
  rw [Nat.zero_add, Lib.bytesWorld_cell w _ s i hi]
  rw [List.getElem?_map] at hu
  have h2 : s.data.toList[i]? = some (s.data.toList.getD i 0) := by rw [List.getD_eq_getElem?_getD, List.getElem?_eq_getElem (by omega)]; rfl
  rw [h2] at hu
  simpa using hu
theorem wpList_convert_bytes {ops : Array Oper} {rest : List Oper} {op : Oper} {a : Act} {w : World} {Q : Exit → Act → World → Prop} (x : Operand) (ho : op.op = .convert 9 27 x) (hgd : Region.wanted op (yielded ops a.tmps) = true) {s : ByteArray} (hx : a.eval x = .string s) (hs : s.size ≤ 4611686018427387904)
    (h : ∀ (g n cap : Nat) (w' : World), BS w' g (.slice (some ⟨g, 0, none⟩) n cap) s.data.toList → Mod [] w w' → w.heap.size ≤ g → g < w'.heap.size → Hid (n = s.size) → wpList Try.prog ops Q rest (a.put op.dst (.slice (some ⟨g, 0, none⟩) n cap)) w') : wpList Try.prog ops Q (op :: rest) a w := by
  refine BigFrame.wpList_want hgd fun K hK => ?_
  have hr := Lib.run_convert_string_bytes (P := Try.prog) w 9 27 5 s Try.underlying9 Try.underlying27 Try.underlying5
  unfold Oper.wp execOp
  simp only [ho, hx, Sem.run_bind, hr, Result.andThen_ok, Sem.run_pure]
  exact hK _ _ (h _ _ _ _ (bytes_bs w s hs) (bytes_mod w s) (Nat.le_refl _) (by rw [Lib.bytesWorld_size]; omega) (Lib.hid rfl))
end Go.Proofs.Ytlpjeckhejbkkaa
end

section
set_option linter.unusedVariables false
set_option linter.unusedSimpArgs false
set_option maxRecDepth 20000
set_option maxHeartbeats 1600000
namespace Go.Proofs.Ytlpjeckhejbkkaa
open Go.RowKit

theorem kinds5 (kn : Nat) (h : kn < 10) : (hasText (kn : Int) = false ∧ ((kn : Int) == 6) = false ∧ hasAt (kn : Int) = false) ∨ (hasText (kn : Int) = true ∧ ((kn : Int) == 6) = false ∧ hasAt (kn : Int) = false) ∨ (hasText (kn : Int) = false ∧ ((kn : Int) == 6) = true ∧ hasAt (kn : Int) = false) ∨ (hasText (kn : Int) = true ∧ ((kn : Int) == 6) = false ∧ hasAt (kn : Int) = true) ∨ (hasText (kn : Int) = false ∧ ((kn : Int) == 6) = false ∧ hasAt (kn : Int) = true) := by
  have : kn = 0 ∨ kn = 1 ∨ kn = 2 ∨ kn = 3 ∨ kn = 4 ∨ kn = 5 ∨ kn = 6 ∨ kn = 7 ∨ kn = 8 ∨ kn = 9 := by omega
  rcases this with rfl | rfl | rfl | rfl | rfl | rfl | rfl | rfl | rfl | rfl <;> decide
theorem refNumber0_any (v : Value) (xs : Bytes) (w : World) (hO : OwnB w v xs) (hz : xs.length ≤ 190000000000000) :
    Calls Try.prog 54 #[v, .int .u64 0] w (AppP w v (xs ++ putNum 0)) := refNumber_any v xs 0 w hO (by omega) hz
theorem own_eq {w : World} {v : Value} {xs ys : Bytes} (h : OwnB w v xs) (e : ys = xs) : OwnB w v ys := by rw [e]; exact h
def putAt0 (n : Nat) (h : GHash) : Bytes := putNum n ++ (if n = 0 then [] else h.l)
theorem put_eq (o : GOp) (kn : Nat) (hk : o.kind = (kn : Int)) (h9 : kn < 10) (ao : Int) (ha : o.at_.op = ao) : putOp o = UInt8.ofNat kn :: (putText o.key ++ ((if hasText (kn : Int) then putText o.text else []) ++ ((if (kn : Int) = 6 then putNum (zig o.n) else []) ++ (if hasAt (kn : Int) then putNum ao.toNat ++ (if ao = 0 then [] else o.at_.node.l) else [])))) := by
  unfold putOp putAt
  rw [hk, ha]
  have e : ((kn : Int).toNat % 256) = kn := by simp; omega
  rw [e]
theorem refPut_any (v0 : Value) (xs : Bytes) (l : List GOp) (g : Nat) (v : Value) (w : World) (hO : OwnB w v0 xs) (hs : OS w g v l) (hg : 0 < l.length → g ∉ blks v0) (hn : ∀ o ∈ l, o.nums) (h0 : (checkOps l).1 = 0) (hz : xs.length ≤ 150000000000000) :
    Calls Try.prog 56 #[v0, v] w (AppP w v0 (xs ++ putOps l)) := by
  obtain ⟨hl, hall⟩ := check_all h0
  have HALL := Lib.hid hall; clear hall
  have HN := Lib.hid hn; clear hn
  obtain ⟨A, cap, rfl, _, _⟩ := hs.val
  have HTL := Lib.hid (takeOps_length l hl HALL.out HN.out)
  have HLB : Hid ((putNum l.length).length ≤ 10) := Lib.hid (putNum_length10 _ (by omega))
  have hnum := refNumber_any v0 xs l.length w hO (by omega) (by omega)
  have HNU := Lib.hid hnum; clear hnum
  have HS := Lib.hid hs; clear hs
  go_enter Try.func56, Try.ntmps56
  go_wp2_with fail
  refine HNU.out.mono ?_
  rintro e' w1 ⟨A1, n1, cap1, rfl, ho1, hm1, hf1⟩
  have HS1 : Hid (OS w1 g _ l) := Lib.hid (HS.out.mod hm1 hg)
  have HG1 : Hid (0 < l.length → g ∉ blks (.slice A1 n1 cap1)) := Lib.hid (HS.out.not hf1 hg)
  have HO1 := Lib.hid ho1
  have HM1 := Lib.hid hm1
  have HF1 := Lib.hid hf1
  clear ho1 hm1 hf1
  go_wp2_with fail
  go_loopw [0, 5] (fun s0 s5 wr => ∃ (j : Nat) (A' : Option Addr) (n' cap' : Nat), s5 = .int .i64 (j : Int) ∧ j ≤ l.length ∧ s0 = .slice A' n' cap' ∧ Hid (OS wr g (.slice A l.length cap) l) ∧ Hid (OwnB wr (.slice A' n' cap') (xs ++ putNum l.length ++ (l.take j).flatMap putOp)) ∧ Hid (Mod (blks v0) w wr) ∧ Hid (Fresh w (blks v0) (blks (.slice A' n' cap'))) ∧ Hid (0 < l.length → g ∉ blks (.slice A' n' cap'))) (fun _ s _ => l.length - (intOf s).toNat)
  case atStart => exact ⟨0, A1, n1, cap1, rfl, by omega, rfl, HS1, Lib.hid (by simpa using HO1.out), HM1, HF1, HG1⟩
  case round =>
    obtain ⟨j, A', n', cap', rfl, hj, rfl, HS, HO, HM, HF, HG'⟩ := hrel
    clear HS1 HO1 HM1 HF1 HG1
    by_cases hjl : j < l.length
    · obtain ⟨off, cap2, hv', _, _, hgl, hit⟩ := HS.out.item (by omega)
      injection hv' with hA _ hcap
      subst hA
      subst hcap
      have HJ := Lib.hid (hit j hjl)
      have HLEN : Hid (((l.take j).flatMap putOp).length ≤ 307200000) := Lib.hid (by have := HTL.out j hj; omega)
      have HW := Lib.hid (HALL.out j hjl)
      have HTK : Hid (l.take (j + 1) = l.take j ++ [l[j]]) := Lib.hid (List.take_succ_eq_append_getElem hjl)
      have HON := Lib.hid (HN.out l[j] (List.getElem_mem _))
      have HQF : Hid (wr.heap.size ∉ blks (.slice A' n' cap')) := Lib.hid (fun h => by have := HO.out.lt _ h; omega)
      clear hit
      obtain ⟨o, ho⟩ : ∃ o, l[j] = o := ⟨_, rfl⟩
      rw [ho] at HJ HW HTK HON
      clear ho
      obtain ⟨hk, hks, hts, _, hmay⟩ := wrong_zero HW.out
      obtain ⟨kn, hkn, hkn9⟩ : ∃ kn : Nat, o.kind = (kn : Int) ∧ kn < 10 := ⟨o.kind.toNat, by unfold known at hk; have := of_decide_eq_true hk; omega, by unfold known at hk; have := of_decide_eq_true hk; omega⟩
      obtain ⟨B, hB⟩ : ∃ B, xs ++ putNum l.length ++ (l.take j).flatMap putOp = B := ⟨_, rfl⟩
      have HBE := Lib.hid hB
      rw [hB] at HO
      have HBL : Hid (B.length ≤ 160000400000000) := Lib.hid (by rw [← hB, List.length_append, List.length_append]; have := HLB.out; have := HLEN.out; omega)
      clear hB
      have HKB : Hid ((kn : Int) = ((UInt8.ofNat kn).toNat : Int)) := Lib.hid (by rw [show (UInt8.ofNat kn).toNat = kn from (by simp; omega)])
      have HKL : Hid ((putText o.key).length ≤ 65546) := Lib.hid (putText_length o.key hks)
      have HTL2 : Hid ((putText o.text).length ≤ 65546) := Lib.hid (putText_length o.text hts)
      have HL1 : Hid ((putNum o.key.data.toList.length).length ≤ 10) := Lib.hid (putNum_length10 _ (by have : o.key.data.toList.length = o.key.size := rfl; omega))
      have HL2 : Hid ((putNum o.text.data.toList.length).length ≤ 10) := Lib.hid (putNum_length10 _ (by have : o.text.data.toList.length = o.text.size := rfl; omega))
      have HNL : Hid ((putNum (zig o.n)).length ≤ 10) := Lib.hid (putNum_length10 _ (zig_lt _ HON.out.1 HON.out.2))
      have HKE : Hid (o.key.data.toList.length = o.key.size) := Lib.hid rfl
      have HTE : Hid (o.text.data.toList.length = o.text.size) := Lib.hid rfl
      have HON1 := HON.out.1
      have HON2 := HON.out.2
      have HFITS : Hid (hasAt (kn : Int) = true → 0 ≤ o.at_.op ∧ o.at_.op ≤ 1024) := Lib.hid (fun h => atMay_fits (hmay (by rw [hkn]; exact h)) (by simp; omega))
      have HKN := Lib.hid hkn
      clear hmay hkn HW HALL HN HTL HON hz
      obtain ⟨ao, hao⟩ : ∃ ao, o.at_.op = ao := ⟨_, rfl⟩
      have HAO := Lib.hid hao
      have HZ7 : Hid ((hasText (kn : Int) = false ∧ ((kn : Int) == 6) = false ∧ hasAt (kn : Int) = false) ∨ (hasText (kn : Int) = true ∧ ((kn : Int) == 6) = false ∧ hasAt (kn : Int) = false) ∨ (hasText (kn : Int) = false ∧ ((kn : Int) == 6) = true ∧ hasAt (kn : Int) = false) ∨ (hasText (kn : Int) = true ∧ ((kn : Int) == 6) = false ∧ hasAt (kn : Int) = true ∧ ao = 0) ∨ (hasText (kn : Int) = true ∧ ((kn : Int) == 6) = false ∧ hasAt (kn : Int) = true ∧ ∃ m : Nat, ao = (m : Int) ∧ 0 < m ∧ m ≤ 1024) ∨ (hasText (kn : Int) = false ∧ ((kn : Int) == 6) = false ∧ hasAt (kn : Int) = true ∧ ao = 0) ∨ (hasText (kn : Int) = false ∧ ((kn : Int) == 6) = false ∧ hasAt (kn : Int) = true ∧ ∃ m : Nat, ao = (m : Int) ∧ 0 < m ∧ m ≤ 1024)) := Lib.hid (by
        rcases kinds5 kn hkn9 with h | h | h | ⟨h1, h2, h3⟩ | ⟨h1, h2, h3⟩
        · exact .inl h
        · exact .inr (.inl h)
        · exact .inr (.inr (.inl h))
        · have := HFITS.out h3
          by_cases h0 : ao = 0
          · exact .inr (.inr (.inr (.inl ⟨h1, h2, h3, h0⟩)))
          · exact .inr (.inr (.inr (.inr (.inl ⟨h1, h2, h3, ao.toNat, by omega, by omega, by omega⟩))))
        · have := HFITS.out h3
          by_cases h0 : ao = 0
          · exact .inr (.inr (.inr (.inr (.inr (.inl ⟨h1, h2, h3, h0⟩)))))
          · exact .inr (.inr (.inr (.inr (.inr (.inr ⟨h1, h2, h3, ao.toNat, by omega, by omega, by omega⟩))))))
      clear hao
      rcases HZ7.out with ⟨hT, h6, hA⟩ | ⟨hT, h6, hA⟩ | ⟨hT, h6, hA⟩ | ⟨hT, h6, hA, rfl⟩ | ⟨hT, h6, hA, m, rfl, hm0, hm1⟩ | ⟨hT, h6, hA, rfl⟩ | ⟨hT, h6, hA, m, rfl, hm0, hm1⟩
      all_goals
        clear HZ7
        go_wp2_with (first | ((with_reducible refine wpList_load_op _ rfl ?hgd HJ.out ?hx ?_); (case hgd => exact rfl); (case hx => exact rfl)) | ((with_reducible refine wpList_store_op (o := o) _ _ rfl ?hgd ?hx ?hy (Blk.new _ _ _) ?hold ?_); (case hgd => exact rfl); (case hx => exact rfl); (case hy => exact rfl); (case hold => exact rfl); intro w3 hv3 hm3; dsimp only [Act.put]; have hm4 := ((Mod.refl [] wr).alloc _).then hm3 (by simp); obtain ⟨c0, c1, c2, c3, c36, _, _, HH⟩ := hv3.open_; rw [HKN.out] at c0; rw [HAO.out] at c36; have HP : Hid (PT w v0 wr.heap.size g (.slice (some ⟨g, off, none⟩) l.length cap) l o B (.slice A' n' cap') w3) := Lib.hid ⟨HO.out.mod hm4 (by simp), HS.out.mod hm4 (by simp), hv3, HM.out.trans (hm4.mono (by simp)), HF.out, HG'.out, HQF.out⟩; clear hv3 hm3 hm4) | (at_builtin; (refine wpList_append_bytes rfl _ _ rfl (HP.out.1.mod ((Mod.refl [] _).alloc _) (by simp)) rfl (bs_one _ 5 (x := UInt8.ofNat kn) HKB.out) rfl ?_ ?_; rotate_left; (simp only [List.length_append, List.length_cons, List.length_nil]; have := HBL.out; have := HL1.out; have := HL2.out; have := HNL.out; have := HKE.out; have := HTE.out; (try have := putNum_length10 m (by omega)); omega)); intro A4 n4 cap4 w4 hown4 hn4 hm4 HF4; obtain ⟨A5, n5, cap5, he5, hp5⟩ := HP.out.app (e := .returned (.slice A4 n4 cap4)) ⟨A4, n4, cap4, rfl, hown4, ((Mod.refl _ _).alloc _).trans hm4, fun b hb => (HF4.out b hb).imp id (by simp; omega)⟩; injection he5 with he5; injection he5 with e1 e2 e3; subst e1 e2 e3; clear hown4 hm4 HP; have HP := Lib.hid hp5; clear hp5 HF4 hn4; clear c0 c1 c2 c3 c36; obtain ⟨c0, c1, c2, c3, c36, _, _, HH⟩ := OpV.open_ HP.out.2.2.1; rw [HKN.out] at c0; rw [HAO.out] at c36) | ((with_reducible refine wpList_convert_bytes _ rfl ?hgd (s := o.key) ?hx ?_ ?_); (case hgd => exact rfl); (case hx => exact rfl); omega; intro gb nb capb wb hbs hmb hgb hgl2 HNB; have hp5 := HP.out.mod hmb; have hnb := fun hb => Nat.lt_irrefl gb (Nat.lt_of_lt_of_le (HP.out.1.lt gb hb) hgb); clear HP; have HP := Lib.hid hp5; have HBS := Lib.hid hbs; have HNB2 := Lib.hid hnb; clear hp5 hbs hnb hmb hgb hgl2; clear c0 c1 c2 c3 c36; obtain ⟨c0, c1, c2, c3, c36, _, _, HH⟩ := OpV.open_ HP.out.2.2.1; rw [HKN.out] at c0; rw [HAO.out] at c36) | ((with_reducible refine wpList_convert_bytes _ rfl ?hgd (s := o.text) ?hx ?_ ?_); (case hgd => exact rfl); (case hx => exact rfl); omega; intro gb nb capb wb hbs hmb hgb hgl2 HNB; have hp5 := HP.out.mod hmb; have hnb := fun hb => Nat.lt_irrefl gb (Nat.lt_of_lt_of_le (HP.out.1.lt gb hb) hgb); clear HP; have HP := Lib.hid hp5; have HBS := Lib.hid hbs; have HNB2 := Lib.hid hnb; clear hp5 hbs hnb hmb hgb hgl2; clear c0 c1 c2 c3 c36; obtain ⟨c0, c1, c2, c3, c36, _, _, HH⟩ := OpV.open_ HP.out.2.2.1; rw [HKN.out] at c0; rw [HAO.out] at c36) | (go_at_call 70; refine (refBytes_any _ _ _ gb _ _ HP.out.1 HBS.out (fun _ => HNB2.out) (by (simp only [List.length_append, List.length_cons, List.length_nil]; have := HBL.out; have := HL1.out; have := HL2.out; have := HNL.out; have := HKE.out; have := HTE.out; (try have := putNum_length10 m (by omega)); omega))).mono ?_; rintro e' w6 hp6; obtain ⟨A6, n6, cap6, rfl, hp6'⟩ := HP.out.app hp6; clear HP hp6; have HP := Lib.hid hp6'; clear hp6'; clear c0 c1 c2 c3 c36; obtain ⟨c0, c1, c2, c3, c36, _, _, HH⟩ := OpV.open_ HP.out.2.2.1; rw [HKN.out] at c0; rw [HAO.out] at c36) | (go_at_call 71; refine (hasText_any _ _).mono ?_; rintro e' w7 ⟨rfl, rfl⟩) | (go_at_call 73; refine (hasAt_any _ _).mono ?_; rintro e' w7 ⟨rfl, rfl⟩) | (go_at_call 72; refine (refZig_any _ HON1 HON2 _).mono ?_; rintro e' w7 ⟨rfl, rfl⟩) | (go_at_call 54; refine (refNumber_any _ _ _ _ HP.out.1 (by first | omega | exact zig_lt _ HON1 HON2) (by (simp only [List.length_append, List.length_cons, List.length_nil]; have := HBL.out; have := HL1.out; have := HL2.out; have := HNL.out; have := HKE.out; have := HTE.out; (try have := putNum_length10 m (by omega)); omega))).mono ?_; rintro e' w6 hp6; obtain ⟨A6, n6, cap6, rfl, hp6'⟩ := HP.out.app hp6; clear HP hp6; have HP := Lib.hid hp6'; clear hp6'; clear c0 c1 c2 c3 c36; obtain ⟨c0, c1, c2, c3, c36, _, _, HH⟩ := OpV.open_ HP.out.2.2.1; rw [HKN.out] at c0; rw [HAO.out] at c36) | (go_at_call 54; refine (refNumber0_any _ _ _ HP.out.1 (by (simp only [List.length_append, List.length_cons, List.length_nil]; have := HBL.out; have := HL1.out; have := HL2.out; have := HNL.out; have := HKE.out; have := HTE.out; (try have := putNum_length10 m (by omega)); omega))).mono ?_; rintro e' w6 hp6; obtain ⟨A6, n6, cap6, rfl, hp6'⟩ := HP.out.app hp6; clear HP hp6; have HP := Lib.hid hp6'; clear hp6'; clear c0 c1 c2 c3 c36; obtain ⟨c0, c1, c2, c3, c36, _, _, HH⟩ := OpV.open_ HP.out.2.2.1; rw [HKN.out] at c0; rw [HAO.out] at c36) | ((with_reducible refine wpList_load_hash _ rfl ?hgd HH.out ?hx ?_); (case hgd => exact rfl); (case hx => exact rfl)) | (go_at_call 55; refine (refHash_any _ _ _ _ HP.out.1 (by (simp only [List.length_append, List.length_cons, List.length_nil]; have := HBL.out; have := HL1.out; have := HL2.out; have := HNL.out; have := HKE.out; have := HTE.out; (try have := putNum_length10 m (by omega)); omega))).mono ?_; rintro e' w6 hp6; obtain ⟨A6, n6, cap6, rfl, hp6'⟩ := HP.out.app hp6; clear HP hp6; have HP := Lib.hid hp6'; clear hp6'; clear c0 c1 c2 c3 c36; obtain ⟨c0, c1, c2, c3, c36, _, _, HH⟩ := OpV.open_ HP.out.2.2.1; rw [HKN.out] at c0; rw [HAO.out] at c36))
        go_roundw
        case rel =>
          refine ⟨j + 1, A6, n6, cap6, by go_num, by omega, rfl, Lib.hid HP.out.2.1, Lib.hid (own_eq HP.out.1 ?_), Lib.hid HP.out.2.2.2.1, Lib.hid HP.out.2.2.2.2.1, Lib.hid HP.out.2.2.2.2.2.1⟩
          rw [HTK.out, List.flatMap_append, ← List.append_assoc, HBE.out]
          have hop := put_eq o kn HKN.out hkn9 _ HAO.out
          rw [hT, hA] at hop
          simp only [List.flatMap_cons, List.flatMap_nil, List.append_nil]
          rw [hop]
          first
            | (have hk6 := of_decide_eq_true h6; simp [hk6, putText, putAt0]; done)
            | (have hk6 := of_decide_eq_false h6; simp [hk6, putText, putAt0]; done)
            | (have hk6 := of_decide_eq_false h6; have hmn : ¬ ((m : Nat) : Int) = 0 := by omega; rw [if_neg hmn]; simp [hk6, putText]; done)
            | (have hmn : ¬ ((m : Nat) : Int) = 0 := by omega
               have hk6 := of_decide_eq_false h6
               rw [if_neg hmn]; simp [hk6, putText])
        case measure => simp [intOf]; omega
    · have hje : j = l.length := by omega
      subst hje
      go_wp2
      go_ret
      have e : xs ++ putNum l.length ++ (l.take l.length).flatMap putOp = xs ++ putOps l := by rw [List.take_length, List.append_assoc]; rfl
      exact ⟨A', n', cap', rfl, by rw [← e]; exact HO.out, HM.out, HF.out⟩
end Go.Proofs.Ytlpjeckhejbkkaa
end

section
set_option linter.unusedVariables false
set_option linter.unusedSimpArgs false
set_option maxRecDepth 20000
set_option maxHeartbeats 800000
namespace Go.Proofs.Ytlpjeckhejbkkaa
open Go.RowKit

theorem wpList_store_ident {ops : Array Oper} {rest : List Oper} {op : Oper} {a : Act} {w : World} {Q : Exit → Act → World → Prop} (x y : Operand) (ho : op.op = .store 72 x y) (hgd : Region.wanted op (yielded ops a.tmps) = true) {g : Nat} {o : GIdent} {old : Array Value} (hx : a.eval x = .pointer (some ⟨g, 0, none⟩)) (hy : a.eval y = o.val) (hb : Blk w g 72 old) (hold : old.size = 33)
    (h : ∀ w', IdV w' g o → Mod [g] w w' → wpList Try.prog ops Q rest (a.put op.dst undef) w') : wpList Try.prog ops Q (op :: rest) a w :=
  wpList_store_blk rtIdent x y ho hgd hx hy hb o.cells_length hold o.one h
theorem id_zero {a : GIdent} (h : a.node = GHash.zero) (h0 : a.op = 0) : (a == GIdent.zero) = true := by
  obtain ⟨n, i⟩ := a
  simp_all [GIdent.zero]
theorem id_zero' {a : GIdent} (h0 : (a.op == 0) = false) : (a == GIdent.zero) = false := by
  obtain ⟨n, i⟩ := a
  rw [beq_eq_false_iff_ne]
  rintro e
  simp_all [GIdent.zero]
theorem atMay_zero2 {l : List GOp} {o : GOp} (h : o.at_.node = GHash.zero) (h0 : (o.at_.op == 0) = true) : atMay l o = (o.kind == 8) := atMay_zero (id_zero h (by simpa using h0))
theorem atMay_far2 {l : List GOp} {o : GOp} (h : ¬ o.at_.node = GHash.zero) : atMay l o = decide (1 ≤ o.at_.op ∧ o.at_.op ≤ 1024) := atMay_far (by simpa using h)
theorem atMay_out2 {l : List GOp} {o : GOp} (h : o.at_.node = GHash.zero) (h0 : (o.at_.op == 0) = false) (h1 : ¬ (1 ≤ o.at_.op ∧ o.at_.op ≤ l.length)) : atMay l o = false := atMay_out (id_zero' h0) (by simpa using h) h1
theorem atMay_in2 {l : List GOp} {o x : GOp} {j : Nat} (h : o.at_.node = GHash.zero) (h1 : o.at_.op = (j : Int) + 1) (hj : j < l.length) (hx : l[j]? = some x) : atMay l o = (x.kind == 8 && x.key.toList == o.key.toList) := atMay_in (by simpa using h) h1 hj hx
theorem OS.lt {w : World} {g : Nat} {v : Value} {l : List GOp} (h : OS w g v l) (h0 : 0 < l.length) : g < w.heap.size := by
  obtain ⟨_, _, _, _, _, h, _⟩ := h.at_ h0
  exact h
theorem refAtMay_any (l : List GOp) (i : Nat) (hi : i < l.length) (g : Nat) (v : Value) (w : World) (hs : OS w g v l) :
    Calls Try.prog 78 #[v, .int .i64 (i : Int)] w fun e w' => e = .returned (.bool (atMay (l.take i) l[i])) ∧ Mod [] w w' := by
  obtain ⟨off, cap, rfl, h1, h2, hgl, hit⟩ := hs.item (by omega)
  have HJ := Lib.hid (hit i hi)
  have HLT : Hid ((l.take i).length = i) := Lib.hid (by simp; omega)
  have hib : i ≤ 9223372036854775806 := by unfold maxLen at h2; omega
  by_cases hin : 1 ≤ l[i].at_.op ∧ l[i].at_.op ≤ i
  · obtain ⟨j, hj⟩ : ∃ j : Nat, l[i].at_.op = (j : Int) + 1 := ⟨(l[i].at_.op - 1).toNat, by omega⟩
    have hji : j < i := by omega
    have hjl : j < l.length := by omega
    have HX := Lib.hid (hit j hjl)
    have HE : Hid ((l.take i)[j]? = some l[j]) := Lib.hid (by rw [List.getElem?_take_of_lt hji]; simp [hjl])
    have HW : Hid (l[i].at_.op = (j : Int) + 1) := Lib.hid hj
    have hjb : j ≤ 9223372036854775806 := by omega
    clear hit hin hs hj h1 h2
    go_enter Try.func78, Try.ntmps78
    go_wp2_with (first | ((with_reducible refine wpList_load_ident _ rfl ?hgd HJ.out.at_ ?hx ?_); (case hgd => exact rfl); (case hx => exact rfl)) | ((with_reducible refine wpList_store_ident (o := l[i].at_) _ _ rfl ?hgd ?hx ?hy (Blk.new _ _ _) ?hold ?_); (case hgd => exact rfl); (case hx => exact rfl); (case hy => exact rfl); (case hold => exact rfl); intro w2 hv2 hm2; obtain ⟨d32, _, HD⟩ := hv2.open_; have hm3 := ((Mod.refl [] w).alloc _).then hm2 (by simp); have hj2 := op_in HJ.out hm3 (by simp); have ek := hj2.kind; have ey := hj2.key; rw [HW.out] at d32; have HX2 := Lib.hid (op_in HX.out hm3 (by simp)); have HM := Lib.hid hm3; clear hv2 hm2 hm3 hj2) | ((with_reducible refine wpList_load_hash _ rfl ?hgd HD.out ?hx ?_); (case hgd => exact rfl); (case hx => exact rfl)) | ((with_reducible refine wpList_load_op _ rfl ?hgd HX2.out ?hx ?_); (case hgd => exact rfl); (case hx => exact rfl)) | ((with_reducible refine wpList_store_op (o := l[j]) _ _ rfl ?hgd ?hx ?hy (Blk.new _ _ _) ?hold ?_); (case hgd => exact rfl); (case hx => exact rfl); (case hy => exact rfl); (case hold => exact rfl); intro w4 hv4 hm4; obtain ⟨x0, x1, x2, x3, x36, _, _, _⟩ := hv4.open_; have hm5 := ((Mod.refl [] w2).alloc _).then hm4 (by simp); have ey4 := hm5.cell (p := ⟨g, off + i * 37 + 1, none⟩) (by have := HM.out.size; show g < w2.heap.size; omega) (by simp); rw [ey] at ey4; have HM4 := Lib.hid (HM.out.trans hm5); clear hv4 hm4 hm5 ek ey))
    all_goals first
      | (exfalso; simp_all; done)
      | (go_ret
         refine ⟨ret_bool ?_, HM.out⟩
         rw [atMay_far2 (by assumption), Bool.eq_iff_iff, HW.out]; simp only [decide_eq_true_eq, Bool.false_eq_true, false_iff]; omega)
      | skip
    all_goals
      have HNZ : Hid (l[i].at_.node = GHash.zero) := Lib.hid (by assumption)
      obtain ⟨kj, hkj⟩ : ∃ x, l[j].kind = x := ⟨_, rfl⟩
      obtain ⟨yj, hyj⟩ : ∃ x, l[j].key = x := ⟨_, rfl⟩
      obtain ⟨yi, hyi⟩ : ∃ x, l[i].key = x := ⟨_, rfl⟩
      rw [hkj] at x0
      rw [hyj] at x1
      rw [hyi] at ey4
      have HR : Hid (atMay (l.take i) l[i] = (kj == 8 && yj.toList == yi.toList)) := Lib.hid (by rw [atMay_in2 HNZ.out HW.out (by rw [HLT.out]; exact hji) HE.out, hkj, hyj, hyi])
      clear hkj hyj hyi x2 x3 x36 HX2 HD d32
      dsimp only [Act.put]
      by_cases hk8 : kj = 8
      · subst hk8
        go_quiet (fail)
        go_wp2
        go_ret
        refine ⟨ret_bool ?_, HM4.out.drewN _⟩
        rw [HR.out]
        simp
      · have hk9 : (kj == 8) = false := by simpa using hk8
        go_quiet (fail)
        go_wp2
        go_ret
        refine ⟨ret_bool ?_, HM4.out.drewN _⟩
        rw [HR.out, hk9]
        rfl
  · have HIN : Hid (¬ (1 ≤ l[i].at_.op ∧ l[i].at_.op ≤ (l.take i).length)) := Lib.hid (by rw [HLT.out]; exact hin)
    clear hit hs h1 h2
    go_enter Try.func78, Try.ntmps78
    go_wp2_with (first | ((with_reducible refine wpList_load_ident _ rfl ?hgd HJ.out.at_ ?hx ?_); (case hgd => exact rfl); (case hx => exact rfl)) | ((with_reducible refine wpList_store_ident (o := l[i].at_) _ _ rfl ?hgd ?hx ?hy (Blk.new _ _ _) ?hold ?_); (case hgd => exact rfl); (case hx => exact rfl); (case hy => exact rfl); (case hold => exact rfl); intro w2 hv2 hm2; obtain ⟨d32, _, HD⟩ := hv2.open_; have hm3 := ((Mod.refl [] w).alloc _).then hm2 (by simp); have hj2 := op_in HJ.out hm3 (by simp); have ek := hj2.kind; have ey := hj2.key; have HM := Lib.hid hm3; clear hv2 hm2 hm3 hj2) | ((with_reducible refine wpList_load_hash _ rfl ?hgd HD.out ?hx ?_); (case hgd => exact rfl); (case hx => exact rfl)))
    all_goals first
      | (exfalso; simp_all; done)
      | (go_ret
         refine ⟨ret_bool ?_, HM.out⟩
         first | (rw [atMay_far2 (by assumption), Bool.eq_iff_iff]; simp only [decide_eq_true_eq, Bool.false_eq_true, false_iff]; omega) | (rw [atMay_zero2 (by assumption) (by assumption)]) | (rw [atMay_out2 (by assumption) (by assumption) HIN.out]))
      | trace_state
end Go.Proofs.Ytlpjeckhejbkkaa
end

section
set_option linter.unusedVariables false
set_option linter.unusedSimpArgs false
set_option maxRecDepth 20000
set_option maxHeartbeats 1600000
namespace Go.Proofs.Ytlpjeckhejbkkaa
open Go.RowKit

theorem toList_nil (s : ByteArray) : s.toList = [] ↔ s.size = 0 := by
  rw [ByteArray.toList_eq]
  exact List.length_eq_zero_iff.symm
theorem refWrong_any (l : List GOp) (i : Nat) (hi : i < l.length) (g : Nat) (v : Value) (w : World) (hs : OS w g v l) :
    Calls Try.prog 58 #[v, .int .i64 (i : Int)] w fun e w' => e = .returned (.int .i64 (wrongOp (l.take i) l[i])) ∧ Mod [] w w' := by
  obtain ⟨off, cap, rfl, h1, h2, hgl, hit⟩ := hs.item (by omega)
  have HJ := Lib.hid (hit i hi)
  have HS := Lib.hid hs
  have hib : i ≤ 9223372036854775806 := by unfold maxLen at h2; omega
  clear hit hs h1 h2
  go_enter Try.func58, Try.ntmps58
  go_wp2_with (first | ((with_reducible refine wpList_load_op _ rfl ?hgd HJ.out ?hx ?_); (case hgd => exact rfl); (case hx => exact rfl)) | ((with_reducible refine wpList_store_op (o := l[i]) _ _ rfl ?hgd ?hx ?hy (Blk.new _ _ _) ?hold ?_); (case hgd => exact rfl); (case hx => exact rfl); (case hy => exact rfl); (case hold => exact rfl); intro w2 hv2 hm2; have hm3 := ((Mod.refl [] w).alloc _).then hm2 (by simp); obtain ⟨d0, d1, d2, d3, d36, HD0, HD4, _⟩ := hv2.open_; have HV2 := Lib.hid hv2; have HS2 : Hid (OS w2 g _ l) := Lib.hid (HS.out.mod hm3 (by simp)); have HM := Lib.hid hm3; clear hv2 hm2 hm3; dsimp only [Act.put]) | (go_at_call 71; refine (hasText_any _ _).mono ?_; rintro e' w3 ⟨rfl, rfl⟩) | (go_at_call 73; refine (hasAt_any _ _).mono ?_; rintro e' w3 ⟨rfl, rfl⟩) | ((with_reducible refine wpList_load_ident _ rfl ?hgd HD4.out ?hx ?_); (case hgd => exact rfl); (case hx => exact rfl)))
  refine (zero_any _ _).mono ?_
  rintro e' w4 ⟨rfl, hm4⟩
  have HM4 := Lib.hid (HM.out.trans hm4)
  have HS4 : Hid (OS w4 g _ l) := Lib.hid (HS2.out.mod hm4 (by simp))
  have HV4 : Hid (OpV w4 w.heap.size l[i]) := Lib.hid (HV2.out.mod hm4 (by simp))
  clear d0 d1 d2 d3 d36 HD0 HD4 HM hm4 HS2 HV2
  obtain ⟨d0, d1, d2, d3, d36, _, _, _⟩ := HV4.out.open_
  by_cases hk : known l[i].kind = true
  · have hk9 := hk
    unfold known at hk9
    have hk9 := of_decide_eq_true hk9
    by_cases hz : 65536 < l[i].key.size ∨ 65536 < l[i].text.size
    · go_wp2_with fail
      all_goals
        go_ret
        refine ⟨ret_int ?_, HM4.out⟩
        rw [wrong4 (by simp [hk]) hz]
        rfl
    · have hz1 : l[i].key.size ≤ 65536 := by omega
      have hz2 : l[i].text.size ≤ 65536 := by omega
      have htz : l[i].text.toList = [] ↔ l[i].text.size = 0 := toList_nil l[i].text
      go_wp2_with (first | (go_at_call 78; refine (refAtMay_any l i hi g _ w4 HS4.out).mono ?_; rintro e' w5 ⟨rfl, hm5⟩; have HM5 := Lib.hid (HM4.out.trans hm5); clear hm5))
      all_goals
        go_ret
        first
          | (refine ⟨ret_int ?_, HM5.out⟩; rw [wrong42 (by simp [hk]) hz (by unfold bad41; simp_all) (by simp_all)]; rfl)
          | (refine ⟨ret_int ?_, HM5.out⟩; rw [wrong0 (by simp [hk]) hz (by unfold bad41; simp_all) (by simp_all)]; rfl)
          | (refine ⟨ret_int ?_, HM4.out⟩; rw [wrong41 (by simp [hk]) hz (by unfold bad41; simp_all)]; rfl)
          | (refine ⟨ret_int ?_, HM4.out⟩; rw [wrong0 (by simp [hk]) hz (by unfold bad41; simp_all) (by simp_all)]; rfl)
          | trace_state
  · have hk9 : ¬ (1 ≤ l[i].kind ∧ l[i].kind ≤ 9) := fun h => hk (by unfold known; exact decide_eq_true h)
    go_wp2_with fail
    all_goals
      go_ret
      refine ⟨ret_int ?_, HM4.out⟩
      rw [wrong40 (by simp [hk])]
      rfl
end Go.Proofs.Ytlpjeckhejbkkaa
end

section
set_option linter.unusedVariables false
set_option linter.unusedSimpArgs false
set_option maxRecDepth 20000
set_option maxHeartbeats 800000
namespace Go.Proofs.Ytlpjeckhejbkkaa
open Go.RowKit

theorem refCheck_any (l : List GOp) (g : Nat) (v : Value) (w : World) (hs : OS w g v l) :
    Calls Try.prog 34 #[v] w fun e w' => e = .returned (.tuple #[.int .i64 (checkOps l).1, .int .i64 (checkOps l).2]) ∧ Mod [] w w' := by
  obtain ⟨A, cap, rfl, hc, hm⟩ := hs.val
  have HS := Lib.hid hs; clear hs
  by_cases hbig : 1024 < l.length
  · have HE : Hid (checkOps l = (3, 0)) := Lib.hid (by rw [checkOps, if_pos hbig])
    go_enter Try.func34, Try.ntmps34
    go_wp2
    go_ret2
    exact ⟨ret_chk (by rw [HE.out]; rfl) (by rw [HE.out]; rfl), Mod.refl _ _⟩
  · have HE : Hid (checkOps l = checkFrom [] l) := Lib.hid (by rw [checkOps, if_neg hbig])
    go_enter Try.func34, Try.ntmps34
    go_wp2
    go_loopw [4] (fun s wr => ∃ j : Nat, s = .int .i64 (j : Int) ∧ j ≤ l.length ∧ Hid (OS wr g (.slice A l.length cap) l) ∧ Hid (Mod [] w wr) ∧ Hid (checkFrom (l.take j) (l.drop j) = checkFrom [] l)) (fun s _ => l.length - (intOf s).toNat)
    case atStart => exact ⟨0, rfl, by omega, HS, Lib.hid (Mod.refl _ _), Lib.hid (by simp)⟩
    case round =>
      obtain ⟨j, rfl, hj, HO, HM, HC⟩ := hrel
      by_cases hjl : j < l.length
      · go_wp2_with fail
        refine (refWrong_any l j hjl g _ wr HO.out).mono ?_
        rintro e' w5 ⟨rfl, hm5⟩
        have HM5 := Lib.hid (HM.out.trans hm5)
        have HO5 : Hid (OS w5 g _ l) := Lib.hid (HO.out.mod hm5 (by simp))
        obtain ⟨x, hx⟩ : ∃ x, wrongOp (l.take j) l[j] = x := ⟨_, rfl⟩
        have HX := Lib.hid hx
        rw [hx]
        clear hx hm5
        by_cases hx0 : x = 0
        · subst hx0
          go_wp2
          go_roundw
          case rel => exact ⟨j + 1, by go_num, by omega, HO5, HM5, Lib.hid ((checkFrom_drop l j hjl HX.out).symm.trans HC.out)⟩
          case measure => simp [intOf]; omega
        · have hxi : ¬ ((x : Int) = 0) := by omega
          have HR : Hid (checkOps l = (x, j)) := Lib.hid (by rw [HE.out, ← HC.out, checkFrom_bad l j hjl (by rw [HX.out]; exact hx0), HX.out])
          go_wp2
          go_ret2
          exact ⟨ret_chk (by rw [HR.out]) (by rw [HR.out]), HM5.out⟩
      · have hje : j = l.length := by omega
        subst hje
        have HR : Hid (checkOps l = (0, 0)) := Lib.hid (by rw [HE.out, ← HC.out]; simp [checkFrom])
        go_wp2
        go_ret2
        exact ⟨ret_chk (by rw [HR.out]; rfl) (by rw [HR.out]; rfl), HM.out⟩
end Go.Proofs.Ytlpjeckhejbkkaa
end

section
set_option linter.unusedVariables false
set_option linter.unusedSimpArgs false
set_option maxRecDepth 20000
set_option maxHeartbeats 1600000
namespace Go.Proofs.Ytlpjeckhejbkkaa
open Go.RowKit

/-- what is laid, and the bytes that it must be, both made by the law -/
def TP (w : World) (p : Nat) (F : List Nat) (xs : Bytes) (s : Value) (ys : Bytes) (wr : World) : Prop :=
  OutB wr p F xs ∧ OwnB wr s ys ∧ Mod [] w wr ∧ (∀ b ∈ F, w.heap.size ≤ b) ∧ (∀ b ∈ blks s, w.heap.size ≤ b) ∧ (∀ b ∈ blks s, b ∉ F)
section
variable {w wr w' : World} {p : Nat} {F : List Nat} {s : Value} {xs ys zs : Bytes} {e : Ending}
theorem TP.mod (h : TP w p F xs s ys wr) (hm : Mod [] wr w') : TP w p F xs s ys w' := by
  obtain ⟨h1, h2, h3, h4, h5, h6⟩ := h
  exact ⟨h1.mod hm (by simp), h2.mod hm (by simp), h3.trans hm, h4, h5, h6⟩
theorem TP.put_ {F' : List Nat} (h : TP w p F xs s ys wr) (h1 : OutB w' p F' zs) (hm : Mod F wr w') (hf : Fresh wr F F') : TP w p F' zs s ys w' := by
  obtain ⟨k1, k2, k3, k4, k5, k6⟩ := h
  refine ⟨h1, k2.mod hm k6, k3.then hm (fun b hb => .inr (k4 b hb)), fun b hb => ?_, k5, fun b hb hb' => ?_⟩
  · rcases hf b hb with h | h
    · exact k4 b h
    · have := k3.size; omega
  · rcases hf b hb' with h | h
    · exact k6 b hb h
    · have := k2.lt b hb; omega
theorem TP.out (h : TP w p F xs s ys wr) (hp : OutP wr p F zs e w') : e = .returned (.tuple #[]) ∧ ∃ F', TP w p F' zs s ys w' := by
  obtain ⟨he, F', h1, h2, h3⟩ := hp
  exact ⟨he, F', h.put_ h1 h2 h3⟩
theorem TP.app_ {s' : Value} (h : TP w p F xs s ys wr) (h1 : OwnB w' s' zs) (hm : Mod (blks s) wr w') (hf : Fresh wr (blks s) (blks s')) : TP w p F xs s' zs w' := by
  obtain ⟨k1, k2, k3, k4, k5, k6⟩ := h
  refine ⟨k1.mod hm (fun b hb hb' => k6 b hb' hb), h1, k3.then hm (fun b hb => .inr (k5 b hb)), k4, fun b hb => ?_, fun b hb hb' => ?_⟩
  · rcases hf b hb with h | h
    · exact k5 b h
    · have := k3.size; omega
  · rcases hf b hb with h | h
    · exact k6 b h hb'
    · have := k1.all b hb'; omega
theorem TP.app (h : TP w p F xs s ys wr) (hp : AppP wr s zs e w') : ∃ A n cap, e = .returned (.slice A n cap) ∧ TP w p F xs (.slice A n cap) zs w' := by
  obtain ⟨A, n, cap, he, h1, h2, h3⟩ := hp
  exact ⟨A, n, cap, he, h.app_ h1 h2 h3⟩
theorem TP.bs (h : TP w p F xs s ys wr) : ∃ g, BS wr g s ys := by
  obtain ⟨g, hg, _⟩ := h.2.1.bs
  exact ⟨g, hg⟩
theorem TP.new {g : Nat} (h : OutB wr p F xs) (hm : Mod [] w wr) (hF : ∀ b ∈ F, w.heap.size ≤ b) : TP w p F xs (.slice none 0 0) [] wr :=
  ⟨h, OwnB.nil _, hm, hF, by simp [blks, Value.ownBlock], by simp [blks, Value.ownBlock]⟩
end
theorem mod_refl_T (S : List Nat) (w : World) : Mod S w w = True := eq_true (Mod.refl S w)
theorem mod_alloc_T {S : List Nat} {a w : World} {o : Obj} (h : Mod S a w) : Mod S a (w.alloc o) = True := eq_true (h.alloc o)
theorem mod_drew_T {S : List Nat} {a w : World} (h : Mod S a w) : Mod S a w.drew = True := eq_true h.drew
theorem mod_drewN_T {S : List Nat} {a w : World} {n : Nat} (h : Mod S a w) : Mod S a (w.drewN n) = True := eq_true (h.drewN n)
attribute [local go_sem] mod_refl_T mod_alloc_T mod_drew_T mod_drewN_T
theorem conv_all {w : World} {g : Nat} {v : Value} {xs : Bytes} (h : BS w g v xs) (S : List Nat) (hg : 0 < xs.length → g ∉ S) : ∀ W, Mod S w W → (convert 27 9 v).run Try.prog W = .ok (.string ⟨xs.toArray⟩) W :=
  fun W hm => run_str (h.mod hm hg)
theorem TP.outM {w wr : World} {p : Nat} {F : List Nat} {s : Value} {xs ys : Bytes} (h : TP w p F xs s ys wr) : ∀ W, Mod [] wr W → OutB W p F xs := fun W hm => h.1.mod hm (by simp)
theorem putOps_length (l : List GOp) (h0 : (checkOps l).1 = 0) (hn : ∀ o ∈ l, o.nums) : (putOps l).length ≤ 307200010 := by
  obtain ⟨hl, hall⟩ := check_all h0
  have h1 := takeOps_length l hl hall hn l.length (Nat.le_refl _)
  rw [List.take_length] at h1
  have h2 := putNum_length10 l.length (by omega)
  unfold putOps
  rw [List.length_append]
  omega
theorem TP.ownM {w wr : World} {p : Nat} {F : List Nat} {s : Value} {xs ys : Bytes} (h : TP w p F xs s ys wr) : ∀ W, Mod [] wr W → OwnB W s ys := fun W hm => h.2.1.mod hm (by simp)
theorem step_append_bytesK {o : Oper} {a : Act} {K : Act → World → Prop} {Q : Exit → Act → World → Prop} {w : World} (s x : Operand)
    (ho : o.op = .call { callee := .builtin .append, args := #[s, x], argTypes := #[27, 27] })
    {v : Value} {xs : Bytes} (hown : OwnB w v xs) (hs : a.eval s = v) {g : Nat} {sv : Value} {ys : Bytes} (hr : BS w g sv ys) (hx : a.eval x = sv)
    (h : ∀ A' n' cap' w', OwnB w' (.slice A' n' cap') (xs ++ ys) → Hid (n' = xs.length + ys.length) → Mod (blks v) w w' → Hid (∀ b ∈ blks (.slice A' n' cap'), b ∈ blks v ∨ b = w.heap.size) → K (a.put o.dst (.slice A' n' cap')) w') (hz : xs.length + ys.length ≤ 200000000000000) :
    Oper.wp Try.prog o a w K Q := by
  obtain ⟨v', w', hrun, h2, h3, h4⟩ := run_append_src (P := Try.prog) w (ty := o.type) etBytes hown (Src.of_rs w Try.underlying27 hr (bv_one ys)) (by unfold maxLen; omega) (by omega)
  obtain ⟨A', cap', rfl, _, _⟩ := own_slice h2
  unfold Oper.wp execOp
  simp only [ho, resolve, invoke, builtin, Sem.run_bind, Sem.run_pure, Result.andThen_ok, List.map_toArray, List.map_cons, List.map_nil, hs, hx, hrun]
  refine h A' _ cap' w' ?_ (Lib.hid rfl) h3 (Lib.hid h4)
  unfold OwnB
  rw [List.length_append, List.map_append]
  exact h2
end Go.Proofs.Ytlpjeckhejbkkaa
end

section
set_option linter.unusedVariables false
set_option linter.unusedSimpArgs false
set_option maxRecDepth 20000
set_option maxHeartbeats 400000
namespace Go.Proofs.Ytlpjeckhejbkkaa
open Go.RowKit

theorem numAt_put (C : Bytes) : ∀ (x i acc : Nat), x * 128 ^ i < 18446744073709551616 → (0 < i → 0 < x) → i ≤ 9 → numAt i acc (putNum x ++ C) = (acc + x * 128 ^ i, i + (putNum x).length, 0) := by
  intro x
  induction x using Nat.strongRecOn with
  | ind x ih =>
    intro i acc hx hi0 hi
    have h9 : i = 9 → x < 2 := by
      rintro rfl
      rw [show (128 : Nat) ^ 9 = 9223372036854775808 from rfl] at hx
      omega
    rw [putNum]
    by_cases h : x < 128
    · rw [if_pos h]
      have hc : (UInt8.ofNat x).toNat = x := by simp; omega
      rw [List.cons_append, List.nil_append, numAt, if_neg (by omega), if_neg (by rw [hc]; rintro ⟨h1, h2⟩; have := h9 h1; omega), if_pos (by rw [hc]; exact h), if_neg (by rw [hc]; rintro ⟨h1, h2⟩; have := hi0 h2; omega), hc]
      simp
    · rw [if_neg h]
      have hc : (UInt8.ofNat (x % 128 + 128)).toNat = x % 128 + 128 := by simp; omega
      have hi8 : i ≠ 9 := fun h1 => by have := h9 h1; omega
      have hp : x / 128 * 128 ^ (i + 1) = x / 128 * 128 * 128 ^ i := by rw [Nat.pow_succ, Nat.mul_comm (128 ^ i) 128, Nat.mul_assoc]
      have hq : x * 128 ^ i = x / 128 * 128 * 128 ^ i + x % 128 * 128 ^ i := by rw [← Nat.add_mul]; congr 1; omega
      rw [List.cons_append, numAt, if_neg (by omega), if_neg (by rintro ⟨h1, h2⟩; exact hi8 h1), if_neg (by rw [hc]; omega), hc]
      rw [ih (x / 128) (by omega) (i + 1) _ (by rw [hp]; omega) (fun _ => by omega) (by omega)]
      rw [hp, hq, show (x % 128 + 128) % 128 = x % 128 by omega, List.length_cons]
      refine Prod.ext ?_ (Prod.ext ?_ rfl)
      · show acc + x % 128 * 128 ^ i + x / 128 * 128 * 128 ^ i = acc + (x / 128 * 128 * 128 ^ i + x % 128 * 128 ^ i)
        omega
      · show i + 1 + (putNum (x / 128)).length = i + ((putNum (x / 128)).length + 1)
        omega
/-- these bytes are read as this -/
def RP {α : Type} (f : Bytes → Nat → Rd α) (v : α) (bs : Bytes) : Prop := ∀ A C : Bytes, f (A ++ bs ++ C) A.length = .ok v (A.length + bs.length)
theorem RP.at_ {α : Type} {f : Bytes → Nat → Rd α} {v : α} {bs : Bytes} (h : RP f v bs) {xs A C : Bytes} (e : xs = A ++ bs ++ C) {p : Nat} (hp : p = A.length) : f xs p = .ok v (p + bs.length) := by
  subst e hp
  exact h A C
theorem rp_num {x most : Nat} (h : x ≤ most) (hx : x < 18446744073709551616) : RP (fun xs p => rdNum xs p most) x (putNum x) := by
  intro A C
  have e : (A ++ putNum x ++ C).drop A.length = putNum x ++ C := by rw [List.append_assoc]; exact List.drop_left
  show rdNum _ _ _ = _
  unfold rdNum
  rw [e, numAt_put C x 0 0 (by simpa using hx) (by omega) (by omega)]
  simp
  omega
theorem rp_raw {bs : Bytes} {n : Nat} (h : bs.length = n) : RP (fun xs p => rdRaw xs p n) bs bs := by
  intro A C
  show rdRaw _ _ _ = _
  unfold rdRaw
  subst h
  have e : (A ++ bs ++ C).drop A.length = bs ++ C := by rw [List.append_assoc]; exact List.drop_left
  rw [if_neg (by simp), e]
  simp
theorem rp_byte (b : UInt8) : RP rdByte b [b] := by
  intro A C
  unfold rdByte
  rw [dif_pos (by simp)]
  simp
theorem rp_hash (h : GHash) : RP rdHash h h.l := by
  intro A C
  cases h with
  | mk l hl =>
    unfold rdHash
    have e : (A ++ l ++ C).drop A.length = l ++ C := by rw [List.append_assoc]; exact List.drop_left
    rw [dif_pos (by simp [hl])]
    simp only [Rd.ok.injEq, GHash.mk.injEq]
    refine ⟨?_, by rw [hl]⟩
    rw [e, ← hl, List.take_left]
theorem rp_text {s : ByteArray} (h : s.size ≤ 65536) : RP rdText s (putText s) := by
  intro A C
  unfold rdText rdBytes putText
  have hs : s.data.toList.length = s.size := Array.length_toList
  rw [(rp_num (most := 65536) h (by omega)).at_ (A := A) (C := s.data.toList ++ C) (by simp only [List.append_assoc]) rfl]
  simp only [Rd.bind]
  rw [(rp_raw hs).at_ (A := A ++ putNum s.size) (C := C) (by simp only [List.append_assoc]) (by rw [List.length_append])]
  show Rd.ok (⟨s.data.toList.toArray⟩ : ByteArray) _ = Rd.ok s _
  rw [Array.toArray_toList, List.length_append, Nat.add_assoc]
theorem zag_zig (n : Int) : zag (zig n) = n := by
  unfold zag zig
  split <;> split <;> omega
theorem rp_signed {n : Int} (h0 : -9223372036854775808 ≤ n) (h1 : n ≤ 9223372036854775807) : RP rdSigned n (putNum (zig n)) := by
  intro A C
  unfold rdSigned
  have hz := zig_lt n h0 h1
  rw [(rp_num (most := 18446744073709551615) (by omega) hz).at_ (A := A) (C := C) rfl rfl]
  simp only [Rd.bind]
  rw [zag_zig]
theorem rp_at {a : GIdent} (h0 : 0 ≤ a.op) (h1 : a.op ≤ 1024) (hz : a.op = 0 → a = GIdent.zero) : RP rdAt a (putAt a) := by
  intro A C
  unfold rdAt putAt
  by_cases h : a.op = 0
  · rw [if_pos h]
    have e := hz h
    subst e
    rw [(rp_num (x := GIdent.zero.op.toNat) (most := 1024) (by decide) (by decide)).at_ (A := A) (C := C) (by simp) rfl]
    simp only [Rd.bind]
    rw [if_pos (by decide)]
    simp
  · rw [if_neg h]
    rw [(rp_num (x := a.op.toNat) (most := 1024) (by omega) (by omega)).at_ (A := A) (C := a.node.l ++ C) (by simp) rfl]
    simp only [Rd.bind]
    rw [if_neg (by omega), (rp_hash a.node).at_ (A := A ++ putNum a.op.toNat) (C := C) (by simp) (by simp)]
    simp only [Rd.ok.injEq]
    refine ⟨?_, by simp [Nat.add_assoc]⟩
    cases a with
    | mk node op => simp only [GIdent.mk.injEq, true_and] at *; omega
theorem atMay_at {done : List GOp} {o : GOp} (hd : done.length ≤ 1024) (h : atMay done o = true) : 0 ≤ o.at_.op ∧ o.at_.op ≤ 1024 ∧ (o.at_.op = 0 → o.at_ = GIdent.zero) := by
  unfold atMay at h
  by_cases hz : o.at_.node = GHash.zero
  · rw [if_pos hz] at h
    by_cases h0 : o.at_.op = 0
    · refine ⟨by omega, by omega, fun _ => ?_⟩
      cases ho : o.at_ with
      | mk node op => rw [ho] at hz h0; simp only at hz h0; subst hz h0; rfl
    · rw [if_neg h0] at h
      by_cases h1 : 1 ≤ o.at_.op ∧ o.at_.op ≤ done.length
      · exact ⟨by omega, by omega, fun h2 => absurd h2 h0⟩
      · rw [if_neg h1] at h
        cases h
  · rw [if_neg hz] at h
    have h1 := of_decide_eq_true h
    exact ⟨by omega, by omega, fun h2 => by omega⟩
theorem wrongOp_ok {done : List GOp} {o : GOp} (h : wrongOp done o = 0) : known o.kind = true ∧ o.key.size ≤ 65536 ∧ o.text.size ≤ 65536 ∧ (hasText o.kind = false → o.text.size = 0) ∧ (o.kind ≠ 6 → o.n = 0) ∧ (hasAt o.kind = false → o.at_ = GIdent.zero) ∧ (hasAt o.kind = true → atMay done o = true) := by
  unfold wrongOp at h
  by_cases h1 : known o.kind = false
  · rw [if_pos h1] at h; cases h
  rw [if_neg h1] at h
  by_cases h2 : 65536 < o.key.size ∨ 65536 < o.text.size
  · rw [if_pos h2] at h; cases h
  rw [if_neg h2] at h
  by_cases h3 : (hasText o.kind = false ∧ o.text.size ≠ 0) ∨ (o.kind ≠ 6 ∧ o.n ≠ 0) ∨ (hasAt o.kind = false ∧ o.at_ ≠ GIdent.zero)
  · rw [if_pos h3] at h; cases h
  rw [if_neg h3] at h
  by_cases h4 : hasAt o.kind = true ∧ atMay done o = false
  · rw [if_pos h4] at h; cases h
  refine ⟨by simpa using h1, by omega, by omega, fun h5 => ?_, fun h5 => ?_, fun h5 => ?_, fun h5 => ?_⟩
  · by_cases h6 : o.text.size = 0
    · exact h6
    · exact absurd (Or.inl ⟨h5, h6⟩) h3
  · by_cases h6 : o.n = 0
    · exact h6
    · exact absurd (Or.inr (Or.inl ⟨h5, h6⟩)) h3
  · by_cases h6 : o.at_ = GIdent.zero
    · exact h6
    · exact absurd (Or.inr (Or.inr ⟨h5, h6⟩)) h3
  · cases h6 : atMay done o with
    | true => rfl
    | false => exact absurd ⟨h5, h6⟩ h4
theorem ba_nil {s : ByteArray} (h : s.size = 0) : s = ⟨#[]⟩ := by
  cases s with
  | mk d =>
    congr 1
    exact Array.eq_empty_of_size_eq_zero h
theorem rp_op {done : List GOp} {o : GOp} (hd : done.length ≤ 1024) (h : wrongOp done o = 0) (hn : o.nums) : RP (fun xs p => rdOp xs p done) o (putOp o) := by
  obtain ⟨h1, h2, h3, h4, h5, h6, h7⟩ := wrongOp_ok h
  have hk : 1 ≤ o.kind ∧ o.kind ≤ 9 := by simpa [known] using h1
  intro A C
  show rdOp _ _ _ = _
  obtain ⟨kb, hkb⟩ : ∃ kb, UInt8.ofNat (o.kind.toNat % 256) = kb := ⟨_, rfl⟩
  have hkt : (kb.toNat : Int) = o.kind := by rw [← hkb]; simp; omega
  unfold rdOp putOp
  rw [hkb]
  obtain ⟨T, hT⟩ : ∃ T, (if hasText o.kind = true then putText o.text else []) = T := ⟨_, rfl⟩
  obtain ⟨N, hN⟩ : ∃ N, (if o.kind = 6 then putNum (zig o.n) else []) = N := ⟨_, rfl⟩
  obtain ⟨P, hP⟩ : ∃ P, (if hasAt o.kind = true then putAt o.at_ else []) = P := ⟨_, rfl⟩
  rw [hT, hN, hP]
  rw [(rp_byte kb).at_ (A := A) (C := putText o.key ++ (T ++ (N ++ P)) ++ C) (by simp) rfl]
  simp only [Rd.bind]
  rw [hkt, if_neg (by rw [h1]; simp)]
  rw [(rp_text h2).at_ (A := A ++ [kb]) (C := T ++ (N ++ P) ++ C) (by simp) (by simp)]
  simp only
  obtain ⟨p2, hp2⟩ : ∃ p2, A.length + [kb].length + (putText o.key).length = p2 := ⟨_, rfl⟩
  rw [hp2]
  have e3 : (if hasText o.kind = true then rdText (A ++ kb :: (putText o.key ++ (T ++ (N ++ P))) ++ C) p2 else .ok ⟨#[]⟩ p2 : Rd ByteArray) = .ok o.text (p2 + T.length) := by
    by_cases ht : hasText o.kind = true
    · rw [if_pos ht] at hT ⊢
      subst hT
      exact (rp_text h3).at_ (A := A ++ [kb] ++ putText o.key) (C := N ++ P ++ C) (by simp) (by rw [← hp2]; simp; omega)
    · rw [if_neg ht] at hT ⊢
      subst hT
      rw [ba_nil (h4 (by simpa using ht))]
      rfl
  rw [e3]
  simp only
  have e4 : (if o.kind = 6 then rdSigned (A ++ kb :: (putText o.key ++ (T ++ (N ++ P))) ++ C) (p2 + T.length) else .ok 0 (p2 + T.length) : Rd Int) = .ok o.n (p2 + T.length + N.length) := by
    by_cases ht : o.kind = 6
    · rw [if_pos ht] at hN ⊢
      subst hN
      exact (rp_signed hn.1 hn.2).at_ (A := A ++ [kb] ++ putText o.key ++ T) (C := P ++ C) (by simp) (by rw [← hp2]; simp; omega)
    · rw [if_neg ht] at hN ⊢
      subst hN
      rw [h5 ht]
      rfl
  rw [e4]
  simp only
  have hl : p2 + T.length + N.length + P.length = A.length + (kb :: (putText o.key ++ (T ++ (N ++ P)))).length := by rw [← hp2]; simp; omega
  by_cases ht : hasAt o.kind = true
  · rw [if_pos ht] at hP ⊢
    subst hP
    obtain ⟨a0, a1, a2⟩ := atMay_at hd (h7 ht)
    rw [(rp_at a0 a1 a2).at_ (A := A ++ [kb] ++ putText o.key ++ T ++ N) (C := C) (by simp) (by rw [← hp2]; simp; omega)]
    simp only
    rw [if_pos (h7 ht), hl]
  · rw [if_neg ht] at hP ⊢
    subst hP
    have ha := h6 (by simpa using ht)
    rw [← hl]
    cases o with
    | mk kind key text n at_ => simp only at ha; subst ha; rfl
theorem rp_list (l : List GOp) : ∀ (done : List GOp), done.length + l.length ≤ 1024 → (∀ j (hj : j < l.length), wrongOp (done ++ l.take j) l[j] = 0) → (∀ o ∈ l, o.nums) → RP (fun xs p => rdList xs l.length p done) (done ++ l) (l.flatMap putOp) := by
  induction l with
  | nil => intro done _ _ _ A C; simp [rdList]
  | cons o l ih =>
    intro done hd hw hn A C
    show rdList _ (l.length + 1) _ _ = _
    unfold rdList
    simp only [List.length_cons] at hd
    have h0 : wrongOp done o = 0 := by
      have h := hw 0 (by simp)
      rw [List.take_zero, List.append_nil] at h
      exact h
    rw [(rp_op (by omega) h0 (hn o (by simp))).at_ (A := A) (C := l.flatMap putOp ++ C) (by simp) rfl]
    simp only [Rd.bind]
    have h1 := ih (done ++ [o]) (by simp; omega) (fun j hj => by
      have h := hw (j + 1) (by simpa using hj)
      rw [List.take_succ_cons] at h
      rw [List.append_assoc]
      exact h) (fun o' ho => hn o' (by simp [ho]))
    rw [h1.at_ (A := A ++ putOp o) (C := C) (by simp) (by simp)]
    simp [Nat.add_assoc]
theorem rp_ops {l : List GOp} (h0 : (checkOps l).1 = 0) (hn : ∀ o ∈ l, o.nums) : RP rdOps l (putOps l) := by
  obtain ⟨hl, hall⟩ := check_all h0
  intro A C
  unfold rdOps putOps
  rw [(rp_num (x := l.length) (most := 1024) hl (by omega)).at_ (A := A) (C := l.flatMap putOp ++ C) (by simp) rfl]
  simp only [Rd.bind]
  rw [(rp_list l [] (by simpa using hl) (fun j hj => by simpa using hall j hj) hn).at_ (A := A ++ putNum l.length) (C := C) (by simp) (by simp)]
  simp [Nat.add_assoc]
end Go.Proofs.Ytlpjeckhejbkkaa
end

section
set_option linter.unusedVariables false
set_option linter.unusedSimpArgs false
set_option maxRecDepth 20000
set_option maxHeartbeats 400000
namespace Go.Proofs.Ytlpjeckhejbkkaa
open Go.RowKit

set_option linter.unusedSectionVars false
/-- a reading, and the same of a beginning of the bytes -/
def CP {α : Type} (r r' : Rd α) (L pos n : Nat) : Prop := ∀ v p, r = .ok v p → pos ≤ L → (pos ≤ p ∧ p ≤ L) ∧ (pos ≤ n → (p ≤ n → r' = .ok v p) ∧ (n < p → ∃ a, a ≤ n ∧ r' = .bad 20 a))
theorem CP.ok {α : Type} (v : α) (L p n : Nat) : CP (.ok v p) (.ok v p) L p n := by
  intro v' p' h hp
  cases h
  exact ⟨⟨Nat.le_refl _, hp⟩, fun h1 => ⟨fun _ => rfl, fun h2 => absurd h1 (by omega)⟩⟩
theorem CP.bad {α : Type} (w a : Nat) (r' : Rd α) (L p n : Nat) : CP (.bad w a) r' L p n := by
  intro v' p' h
  cases h
theorem CP.bind {α β : Type} {r r' : Rd α} {g g' : α → Nat → Rd β} {L pos n : Nat} (h : CP r r' L pos n) (hg : ∀ v q, CP (g v q) (g' v q) L q n) : CP (r.bind g) (r'.bind g') L pos n := by
  intro u p hu hp
  cases r with
  | bad w a => cases hu
  | ok v q =>
    obtain ⟨⟨h1, h2⟩, h3⟩ := h v q rfl hp
    obtain ⟨⟨k1, k2⟩, k3⟩ := hg v q u p hu h2
    refine ⟨⟨by omega, k2⟩, fun hn => ?_⟩
    rcases Nat.lt_or_ge n q with hq | hq
    · obtain ⟨a, ha, hr⟩ := (h3 hn).2 hq
      exact ⟨fun h4 => absurd h4 (by omega), fun _ => ⟨a, ha, by rw [hr]; rfl⟩⟩
    · rw [(h3 hn).1 hq]
      exact k3 hq
theorem CP.ite {α : Type} {c : Prop} [Decidable c] {r r' s s' : Rd α} {L pos n : Nat} (h : c → CP r r' L pos n) (k : ¬ c → CP s s' L pos n) : CP (if c then r else s) (if c then r' else s') L pos n := by
  by_cases hc : c
  · rw [if_pos hc, if_pos hc]; exact h hc
  · rw [if_neg hc, if_neg hc]; exact k hc
section
variable {xs : Bytes} {n : Nat} (hn : n ≤ xs.length)
include hn
theorem cp_raw (pos k : Nat) : CP (rdRaw xs pos k) (rdRaw (xs.take n) pos k) xs.length pos n := by
  have hl : (xs.take n).length = n := by simp; omega
  intro v p h hp
  unfold rdRaw at h ⊢
  split at h
  · cases h
  · cases h
    rw [hl]
    refine ⟨⟨by omega, by omega⟩, fun h1 => ⟨fun h2 => ?_, fun h2 => ⟨pos, h1, by rw [if_pos h2]⟩⟩⟩
    rw [if_neg (by omega), List.drop_take, List.take_take, Nat.min_eq_left (by omega)]
theorem cp_byte (pos : Nat) : CP (rdByte xs pos) (rdByte (xs.take n) pos) xs.length pos n := by
  have hl : (xs.take n).length = n := by simp; omega
  intro v p h hp
  unfold rdByte at h ⊢
  split at h
  · cases h
    refine ⟨⟨by omega, by omega⟩, fun h1 => ⟨fun h2 => ?_, fun h2 => ⟨pos, h1, by rw [dif_neg (by omega)]⟩⟩⟩
    rw [dif_pos (by omega)]
    simp
  · cases h
theorem cp_hash (pos : Nat) : CP (rdHash xs pos) (rdHash (xs.take n) pos) xs.length pos n := by
  rw [rdHash_raw, rdHash_raw]
  exact (cp_raw hn pos 32).bind fun v q => CP.ok _ _ _ _
end
theorem numAt_take (bs : Bytes) : ∀ (i acc x k m : Nat), numAt i acc bs = (x, k, 0) → i ≤ k ∧ (k - i ≤ m → numAt i acc (bs.take m) = (x, k, 0)) ∧ (m < k - i → (numAt i acc (bs.take m)).2.2 = 20) := by
  induction bs with
  | nil =>
    intro i acc x k m h
    rw [numAt] at h
    split at h <;> simp at h
  | cons c r ih =>
    intro i acc x k m h
    rw [numAt] at h
    by_cases h1 : 10 ≤ i
    · rw [if_pos h1] at h; simp at h
    rw [if_neg h1] at h
    by_cases h2 : i = 9 ∧ 1 < c.toNat
    · rw [if_pos h2] at h; simp at h
    rw [if_neg h2] at h
    by_cases h3 : c.toNat < 128
    · rw [if_pos h3] at h
      by_cases h4 : c.toNat = 0 ∧ 0 < i
      · rw [if_pos h4] at h; simp at h
      rw [if_neg h4] at h
      have hk : k = i + 1 := by simp at h; omega
      subst hk
      refine ⟨by omega, fun hm => ?_, fun hm => ?_⟩
      · obtain ⟨m', rfl⟩ : ∃ m', m = m' + 1 := ⟨m - 1, by omega⟩
        rw [List.take_succ_cons, numAt, if_neg h1, if_neg h2, if_pos h3, if_neg h4]
        exact h
      · have hm0 : m = 0 := by omega
        subst hm0
        rw [List.take_zero, numAt, if_neg h1]
    · rw [if_neg h3] at h
      obtain ⟨k1, k2, k3⟩ := ih (i + 1) _ x k (m - 1) h
      refine ⟨by omega, fun hm => ?_, fun hm => ?_⟩
      · by_cases hm0 : m = 0
        · subst hm0
          have : k = i := by omega
          omega
        · obtain ⟨m', rfl⟩ : ∃ m', m = m' + 1 := ⟨m - 1, by omega⟩
          rw [List.take_succ_cons, numAt, if_neg h1, if_neg h2, if_neg h3]
          exact k2 (by omega)
      · by_cases hm0 : m = 0
        · subst hm0
          rw [List.take_zero, numAt, if_neg h1]
        · obtain ⟨m', rfl⟩ : ∃ m', m = m' + 1 := ⟨m - 1, by omega⟩
          rw [List.take_succ_cons, numAt, if_neg h1, if_neg h2, if_neg h3]
          exact k3 (by omega)
section
variable {xs : Bytes} {n : Nat} (hn : n ≤ xs.length)
include hn
theorem cp_num (pos most : Nat) : CP (rdNum xs pos most) (rdNum (xs.take n) pos most) xs.length pos n := by
  intro v p h hp
  have hr := rdNum_ok h hp
  unfold rdNum at h ⊢
  rw [List.drop_take]
  rcases ht : numAt 0 0 (xs.drop pos) with ⟨x, k, e⟩
  rw [ht] at h
  simp only at h
  by_cases he : e = 0
  · subst he
    rw [if_pos rfl] at h
    by_cases hm : most < x
    · rw [if_pos hm] at h; cases h
    · rw [if_neg hm] at h
      cases h
      obtain ⟨_, k2, k3⟩ := numAt_take (xs.drop pos) 0 0 _ _ (n - pos) ht
      refine ⟨⟨by omega, hr.2.2.1⟩, fun h1 => ⟨fun h2 => ?_, fun h2 => ⟨pos, h1, ?_⟩⟩⟩
      · rw [k2 (by omega)]
        simp only
        rw [if_pos trivial, if_neg hm]
      · have k3' := k3 (by omega)
        simp only [k3']
        rw [if_neg (by omega)]
  · rw [if_neg he] at h; cases h
theorem cp_text (pos : Nat) : CP (rdText xs pos) (rdText (xs.take n) pos) xs.length pos n := by
  unfold rdText rdBytes
  exact ((cp_num hn pos 65536).bind fun v q => cp_raw hn q v).bind fun v q => CP.ok _ _ _ _
theorem cp_signed (pos : Nat) : CP (rdSigned xs pos) (rdSigned (xs.take n) pos) xs.length pos n := by
  unfold rdSigned
  exact (cp_num hn pos _).bind fun v q => CP.ok _ _ _ _
theorem cp_at (pos : Nat) : CP (rdAt xs pos) (rdAt (xs.take n) pos) xs.length pos n := by
  unfold rdAt
  exact (cp_num hn pos _).bind fun v q => CP.ite (fun _ => CP.ok _ _ _ _) (fun _ => (cp_hash hn q).bind fun v q => CP.ok _ _ _ _)
theorem cp_op (pos : Nat) (done : List GOp) : CP (rdOp xs pos done) (rdOp (xs.take n) pos done) xs.length pos n := by
  unfold rdOp
  refine (cp_byte hn pos).bind fun k p1 => CP.ite (fun _ => CP.bad _ _ _ _ _ _) (fun _ => ?_)
  refine (cp_text hn p1).bind fun key p2 => ?_
  refine CP.bind (CP.ite (fun _ => cp_text hn p2) (fun _ => CP.ok _ _ _ _)) fun text p3 => ?_
  refine CP.bind (CP.ite (fun _ => cp_signed hn p3) (fun _ => CP.ok _ _ _ _)) fun m p4 => ?_
  exact CP.ite (fun _ => (cp_at hn p4).bind fun a p5 => CP.ite (fun _ => CP.ok _ _ _ _) (fun _ => CP.bad _ _ _ _ _ _)) (fun _ => CP.ok _ _ _ _)
theorem cp_list (k : Nat) : ∀ (pos : Nat) (done : List GOp), CP (rdList xs k pos done) (rdList (xs.take n) k pos done) xs.length pos n := by
  induction k with
  | zero => intro pos done; exact CP.ok _ _ _ _
  | succ k ih => intro pos done; exact (cp_op hn pos done).bind fun o p => ih p _
theorem cp_ops (pos : Nat) : CP (rdOps xs pos) (rdOps (xs.take n) pos) xs.length pos n := by
  unfold rdOps
  exact (cp_num hn pos _).bind fun v q => cp_list hn v q []
end
/-- each beginning of what was laid is short -/
theorem short_law {l : List GOp} (h0 : (checkOps l).1 = 0) (hl : ∀ o ∈ l, o.nums) {n : Nat} (hn : n < (putOps l).length) : ∃ a, a ≤ n ∧ rdOps ((putOps l).take n) 0 = .bad 20 a := by
  have h := (rp_ops h0 hl).at_ (xs := putOps l) (A := []) (C := []) (by simp) (p := 0) rfl
  obtain ⟨_, h2⟩ := cp_ops (n := n) (by omega) 0 l _ h (by omega)
  exact (h2 (by omega)).2 (by omega)
end Go.Proofs.Ytlpjeckhejbkkaa
end
