import Derived.Deep.Cut
import Derived.Test.YtdiplliemdogfaaRIn6
import Derived.Test.YtdiplliemdogfaaGet
import Derived.Test.YtdiplliemdogfaaRef3
set_option linter.unusedVariables false
set_option linter.unusedSimpArgs false
set_option maxRecDepth 20000
set_option maxHeartbeats 3200000
namespace Go.Proofs.Ytdiplliemdogfaa
open Go.RowKit

/-- the state while an operation is read by the reference -/
def OT (w : World) (p g : Nat) (xs : Bytes) (gl : Nat) (vl : Value) (l : List GOp) (zO zE q e : Nat) (s : Rd Unit) (o : GOp) (y a : Int) (wr : World) : Prop :=
  RIn wr p g xs s ∧ OpV wr q o ∧ Blk wr e 57 #[.int .i64 y, .int .i64 a] ∧ OpV wr zO GOp.zero ∧ Blk wr zE 57 #[.int .i64 0, .int .i64 0] ∧ OS wr gl vl l ∧ Mod [p] w wr ∧
  (p < w.heap.size ∧ w.heap.size ≤ zO ∧ zO < zE ∧ zE < q ∧ q < e ∧ (0 < xs.length → g < w.heap.size) ∧ (0 < l.length → gl < w.heap.size ∧ gl ≠ p))
def refOneP (w : World) (p g : Nat) (xs : Bytes) (r : Rd GOp) (e' : Ending) (w' : World) : Prop :=
  ∃ o : GOp, e' = .returned (.tuple #[o.val, r.errv]) ∧ (∀ o' m, r = .ok o' m → o = o') ∧ RIn w' p g xs r.st ∧ Mod [p] w w'
section
variable {w wr w' : World} {p g : Nat} {xs : Bytes} {gl : Nat} {vl : Value} {l : List GOp} {zO zE q e : Nat} {s : Rd Unit} {o : GOp} {y a : Int}
theorem OT.read {s' : Rd Unit} (h : OT w p g xs gl vl l zO zE q e s o y a wr) (hI : RIn w' p g xs s') (hm : Mod [p] wr w') : OT w p g xs gl vl l zO zE q e s' o y a w' := by
  obtain ⟨k1, k2, k3, k4, k5, k6, k7, k8⟩ := h
  obtain ⟨j1, j2, j3, j4, j5, j6, j7⟩ := k8
  exact ⟨hI, k2.mod hm (by simp; omega), k3.mod hm (by simp; omega), k4.mod hm (by simp; omega), k5.mod hm (by simp; omega), k6.mod hm (fun h0 => by have := j7 h0; simp; omega), k7.trans hm, j1, j2, j3, j4, j5, j6, j7⟩
theorem OT.mod (h : OT w p g xs gl vl l zO zE q e s o y a wr) (hm : Mod [] wr w') : OT w p g xs gl vl l zO zE q e s o y a w' :=
  h.read (h.1.mod hm (by simp) (by simp)) (hm.mono (by simp))
theorem OT.setE (h : OT w p g xs gl vl l zO zE q e s o y a wr) (y' a' : Int) : OT w p g xs gl vl l zO zE q e s o y' a' ((wr.setCell ⟨e, 0, none⟩ (.int .i64 y')).setCell ⟨e, 1, none⟩ (.int .i64 a')) := by
  obtain ⟨k1, k2, k3, k4, k5, k6, k7, k8⟩ := h
  obtain ⟨j1, j2, j3, j4, j5, j6, j7⟩ := k8
  have hm : Mod [e] wr ((wr.setCell ⟨e, 0, none⟩ (.int .i64 y')).setCell ⟨e, 1, none⟩ (.int .i64 a')) := ((Mod.refl [e] wr).setCell _ (by simp) _).setCell _ (by simp) _
  exact ⟨k1.mod hm (by simp; omega) (fun h0 => by have := j6 h0; simp; omega), k2.mod hm (by simp; omega), (k3.set_ 0 _).set_ 1 _, k4.mod hm (by simp; omega), k5.mod hm (by simp; omega), k6.mod hm (fun h0 => by have := j7 h0; simp; omega), k7.then hm (by simp; omega), j1, j2, j3, j4, j5, j6, j7⟩
/-- the operation's variable written -/
theorem OT.op {o' : GOp} (h : OT w p g xs gl vl l zO zE q e s o y a wr) (hv : OpV w' q o') (hm : Mod [q] wr w') : OT w p g xs gl vl l zO zE q e s o' y a w' := by
  obtain ⟨k1, k2, k3, k4, k5, k6, k7, k8⟩ := h
  obtain ⟨j1, j2, j3, j4, j5, j6, j7⟩ := k8
  exact ⟨k1.mod hm (by simp; omega) (fun h0 => by have := j6 h0; simp; omega), hv, k3.mod hm (by simp; omega), k4.mod hm (by simp; omega), k5.mod hm (by simp; omega), k6.mod hm (fun h0 => by have := j7 h0; simp; omega), k7.then hm (by simp; omega), j1, j2, j3, j4, j5, j6, j7⟩
theorem OT.setQ (h : OT w p g xs gl vl l zO zE q e s o y a wr) (i : Nat) (v : Value) (o' : GOp) (he : o.cells.toArray.setIfInBounds i v = o'.cells.toArray) : OT w p g xs gl vl l zO zE q e s o' y a (wr.setCell ⟨q, i, none⟩ v) := by
  refine h.op ?_ ((Mod.refl [q] wr).setCell _ (by simp) _)
  have := Blk.set_ h.2.1 i v
  rw [he] at this
  exact this
theorem OT.open_ (h : OT w p g xs gl vl l zO zE q e s o y a wr) : wr.cell? ⟨q, 0, none⟩ = some (.int .i64 o.kind) ∧ wr.cell? ⟨q, 1, none⟩ = some (.string o.key) ∧ wr.cell? ⟨q, 2, none⟩ = some (.string o.text) ∧ wr.cell? ⟨q, 3, none⟩ = some (.int .i64 o.n) ∧ wr.cell? ⟨q, 36, none⟩ = some (.int .i64 o.at_.op) ∧
    wr.cell? ⟨e, 0, none⟩ = some (.int .i64 y) ∧ wr.cell? ⟨e, 1, none⟩ = some (.int .i64 a) ∧ (∀ i, wr.frozen? ⟨q, i, none⟩ = false) ∧ wr.frozen? ⟨e, 0, none⟩ = false ∧ wr.frozen? ⟨e, 1, none⟩ = false ∧ wr.cell? ⟨p, 1, none⟩ = some (.int .i64 (posOf s)) ∧ q ≠ e ∧ e ≠ q ∧ q < wr.heap.size ∧ e < wr.heap.size := by
  obtain ⟨k1, k2, k3, k4, k5, k6, k7, k8⟩ := h
  obtain ⟨c0, c1, c2, c3, c36, _⟩ := k2.open_
  obtain ⟨A, cap, _, d1, _⟩ := k1.open_
  exact ⟨c0, c1, c2, c3, c36, k3.cell 0, k3.cell 1, fun i => Blk.frozen k2 i, k3.frozen 0, k3.frozen 1, d1, by omega, by omega, Blk.lt k2, k3.lt⟩
theorem OT.loado (h : OT w p g xs gl vl l zO zE q e s o y a wr) : ∀ W, Mod [zO, zE] wr W → CellsAt W q 0 o.cells := fun W hW => by
  obtain ⟨k1, k2, k3, k4, k5, k6, k7, k8⟩ := h
  exact CellsAt.of_blk (Blk.mod k2 hW (by simp; omega))
theorem OT.loade (h : OT w p g xs gl vl l zO zE q e s o y a wr) : ∀ W, Mod [zO, zE] wr W → CellsAt W e 0 [.int .i64 y, .int .i64 a] := fun W hW => by
  obtain ⟨k1, k2, k3, k4, k5, k6, k7, k8⟩ := h
  exact CellsAt.of_blk (Blk.mod k3 hW (by simp; omega))
theorem OT.nz (h : OT w p g xs gl vl l zO zE q e s o y a wr) : zE ∉ [zO] ∧ zO ∉ [zE] := by
  obtain ⟨k1, k2, k3, k4, k5, k6, k7, k8⟩ := h
  simp
  omega
theorem OT.fin {r : Rd GOp} (h : OT w p g xs gl vl l zO zE q e s o y a wr) (hm : Mod [zO, zE] wr w') (hr : r.errv = errV y a) (hs : r.st = s) (hv : ∀ o' m, r = .ok o' m → o = o') :
    refOneP w p g xs r (.returned (.tuple #[.agg o.cells.toArray, .agg #[.int .i64 y, .int .i64 a]])) w' := by
  obtain ⟨k1, k2, k3, k4, k5, k6, k7, k8⟩ := h
  obtain ⟨j1, j2, j3, j4, j5, j6, j7⟩ := k8
  refine ⟨o, ?_, hv, ?_, k7.then hm (by simp; omega)⟩
  · rw [hr]; rfl
  · rw [hs]
    exact k1.mod hm (by simp; omega) (fun h0 => by have := j6 h0; simp; omega)
end
/-- what was read, or nothing -/
def Rd.getD {α : Type} (z : α) : Rd α → α
  | .ok a _ => a
  | .bad _ _ => z
theorem Rd.valv_getD {α : Type} (val : α → Value) (z : α) (r : Rd α) : r.valv val (val z) = val (r.getD z) := by cases r <;> rfl
theorem Rd.errv_nat {α : Type} (r : Rd α) : ∃ y a : Nat, r.errv = errV y a := by
  cases r with
  | ok b q => exact ⟨0, 0, rfl⟩
  | bad y a => exact ⟨y, a, rfl⟩
def rdIf {α : Type} (c : Bool) (s : Rd Unit) (f : Nat → Rd α) (z : α) : Rd α := if c then s.bind fun _ m => f m else s.bind fun _ m => .ok z m
/-- a kind is read, and is one -/
def rdKind (xs : Bytes) (pos : Nat) : Rd UInt8 := (rdByte xs pos).bind fun k p1 => if known k.toNat = false then .bad 40 pos else .ok k p1
def rText (xs : Bytes) (k : UInt8) (s : Rd Unit) : Rd ByteArray := rdIf (hasText k.toNat) s (rdText xs) ⟨#[]⟩
def rInt (xs : Bytes) (k : UInt8) (s : Rd Unit) : Rd Int := rdIf ((k.toNat : Int) == 6) s (rdSigned xs) 0
theorem rdOp_kind (xs : Bytes) (pos : Nat) (l : List GOp) : rdOp xs pos l = (rdKind xs pos).bind fun k p1 =>
    (rdText xs p1).bind fun key p2 =>
    (if hasText k.toNat then rdText xs p2 else .ok ⟨#[]⟩ p2 : Rd ByteArray).bind fun text p3 =>
    (if (k.toNat : Int) = 6 then rdSigned xs p3 else .ok 0 p3 : Rd Int).bind fun n p4 =>
    if hasAt k.toNat then
      (rdAt xs p4).bind fun a p5 => if atMay l ⟨k.toNat, key, text, n, a⟩ then .ok ⟨k.toNat, key, text, n, a⟩ p5 else .bad 42 p4
    else .ok ⟨k.toNat, key, text, n, GIdent.zero⟩ p4 := by
  unfold rdOp rdKind
  rw [Rd.bind_assoc]
  congr 1
  funext k p1
  by_cases h : known k.toNat = false
  · rw [if_pos h, if_pos h]; rfl
  · rw [if_neg h, if_neg h]; rfl
theorem rdOp_noAt (xs : Bytes) (pos : Nat) (l : List GOp) (k : UInt8) (p1 : Nat) (hk : rdKind xs pos = .ok k p1) (ha : hasAt (k.toNat : Int) = false) :
    rdOp xs pos l = (rInt xs k (rText xs k (rdText xs p1).st).st).st.bind fun _ p => .ok ⟨k.toNat, (rdText xs p1).getD ⟨#[]⟩, (rText xs k (rdText xs p1).st).getD ⟨#[]⟩, (rInt xs k (rText xs k (rdText xs p1).st).st).getD 0, GIdent.zero⟩ p := by
  rw [rdOp_kind, hk]
  show (rdText xs p1).bind _ = _
  simp only [ha]
  generalize rdText xs p1 = r2
  cases r2 with
  | bad y a => unfold rInt rText rdIf; cases hasText k.toNat <;> cases (k.toNat : Int) == 6 <;> rfl
  | ok key p2 =>
    unfold rText rdIf
    show (if hasText k.toNat then rdText xs p2 else .ok ⟨#[]⟩ p2 : Rd ByteArray).bind _ = _
    have e : (if hasText k.toNat = true then (Rd.ok () p2).bind fun _ m => rdText xs m else (Rd.ok () p2).bind fun _ m => .ok ⟨#[]⟩ m) = (if hasText k.toNat then rdText xs p2 else .ok ⟨#[]⟩ p2 : Rd ByteArray) := rfl
    simp only [Rd.st]
    rw [e]
    generalize (if hasText k.toNat then rdText xs p2 else .ok ⟨#[]⟩ p2 : Rd ByteArray) = r3
    cases r3 with
    | bad y a => unfold rInt rdIf; cases (k.toNat : Int) == 6 <;> rfl
    | ok text p3 =>
      unfold rInt rdIf
      simp only [Rd.st, Rd.bind, beq_iff_eq, Rd.getD]
      generalize (if (k.toNat : Int) = 6 then rdSigned xs p3 else .ok 0 p3 : Rd Int) = r4
      cases r4 <;> rfl
theorem rdOp_atk (xs : Bytes) (pos : Nat) (l : List GOp) (k : UInt8) (p1 : Nat) (hk : rdKind xs pos = .ok k p1) (ha : hasAt (k.toNat : Int) = true) :
    rdOp xs pos l = (rInt xs k (rText xs k (rdText xs p1).st).st).st.bind fun _ p4 => (rdAt xs p4).bind fun a p5 => if atMay l ⟨k.toNat, (rdText xs p1).getD ⟨#[]⟩, (rText xs k (rdText xs p1).st).getD ⟨#[]⟩, (rInt xs k (rText xs k (rdText xs p1).st).st).getD 0, a⟩ then .ok ⟨k.toNat, (rdText xs p1).getD ⟨#[]⟩, (rText xs k (rdText xs p1).st).getD ⟨#[]⟩, (rInt xs k (rText xs k (rdText xs p1).st).st).getD 0, a⟩ p5 else .bad 42 p4 := by
  rw [rdOp_kind, hk]
  show (rdText xs p1).bind _ = _
  simp only [ha]
  generalize rdText xs p1 = r2
  cases r2 with
  | bad y a => unfold rInt rText rdIf; cases hasText k.toNat <;> cases (k.toNat : Int) == 6 <;> rfl
  | ok key p2 =>
    unfold rText rdIf
    show (if hasText k.toNat then rdText xs p2 else .ok ⟨#[]⟩ p2 : Rd ByteArray).bind _ = _
    have e : (if hasText k.toNat = true then (Rd.ok () p2).bind fun _ m => rdText xs m else (Rd.ok () p2).bind fun _ m => .ok ⟨#[]⟩ m) = (if hasText k.toNat then rdText xs p2 else .ok ⟨#[]⟩ p2 : Rd ByteArray) := rfl
    simp only [Rd.st]
    rw [e]
    generalize (if hasText k.toNat then rdText xs p2 else .ok ⟨#[]⟩ p2 : Rd ByteArray) = r3
    cases r3 with
    | bad y a => unfold rInt rdIf; cases (k.toNat : Int) == 6 <;> rfl
    | ok text p3 =>
      unfold rInt rdIf
      simp only [Rd.st, Rd.bind, beq_iff_eq, Rd.getD]
      generalize (if (k.toNat : Int) = 6 then rdSigned xs p3 else .ok 0 p3 : Rd Int) = r4
      cases r4 <;> rfl
def o1 (k : UInt8) (key text : ByteArray) (n : Int) : GOp := ⟨k.toNat, key, text, n, GIdent.zero⟩
theorem o1_set0 (k : UInt8) : GOp.zero.cells.toArray.setIfInBounds 0 (.int .i64 (k.toNat : Int)) = (o1 k ⟨#[]⟩ ⟨#[]⟩ 0).cells.toArray := rfl
theorem o1_set1 (k : UInt8) (key key' text : ByteArray) (n : Int) : (o1 k key text n).cells.toArray.setIfInBounds 1 (.string key') = (o1 k key' text n).cells.toArray := rfl
theorem o1_set2 (k : UInt8) (key text text' : ByteArray) (n : Int) : (o1 k key text n).cells.toArray.setIfInBounds 2 (.string text') = (o1 k key text' n).cells.toArray := rfl
theorem o1_set3 (k : UInt8) (key text : ByteArray) (n n' : Int) : (o1 k key text n).cells.toArray.setIfInBounds 3 (.int .i64 n') = (o1 k key text n').cells.toArray := rfl
def rHash (xs : Bytes) (r5 : Rd Nat) : Rd GHash := if r5.getD 0 = 0 then r5.st.bind fun _ m => .ok GHash.zero m else r5.st.bind fun _ m => rdHash xs m
theorem rdAt_eq (xs : Bytes) (pos : Nat) : rdAt xs pos = (rHash xs (rdNum xs pos 1024)).bind fun h q => .ok ⟨h, ((rdNum xs pos 1024).getD 0 : Nat)⟩ q := by
  unfold rdAt rHash
  generalize rdNum xs pos 1024 = r5
  cases r5 with
  | bad y a => rfl
  | ok n p =>
    show (if n = 0 then Rd.ok GIdent.zero p else (rdHash xs p).bind fun h q => Rd.ok ⟨h, n⟩ q) = (if n = 0 then Rd.ok GHash.zero p else rdHash xs p).bind fun h q => Rd.ok ⟨h, n⟩ q
    by_cases h : n = 0
    · subst h; rfl
    · rw [if_neg h, if_neg h]
theorem o1_36 (k : UInt8) (key text : ByteArray) (n m : Int) : (o1 k key text n).cells.toArray.setIfInBounds 36 (.int .i64 m) = ({ o1 k key text n with at_ := ⟨GHash.zero, m⟩ } : GOp).cells.toArray := GOp.set36 _ m
theorem refOne_any (l : List GOp) (gl : Nat) (vl : Value) (p g m : Nat) (xs : Bytes) (w : World) (hI : RIn w p g xs (.ok () m)) (hz : xs.length ≤ 140737488355328) (hs : OS w gl vl l) (hlp : 0 < l.length → gl ≠ p) (hll : l.length ≤ 1024) :
    Calls Try.prog 53 #[ptr p, vl] w (refOneP w p g xs (rdOp xs m l)) := by
  obtain ⟨A, cap, rfl, u1, u2⟩ := hs.val
  clear u1 u2
  have HS := Lib.hid hs; clear hs
  have HI := Lib.hid hI; clear hI
  have HZ := Lib.hid hz; clear hz
  go_enter Try.func53, Try.ntmps53
  go_upto_region 1 with ((with_reducible refine wpList_alloc_op rfl ?hgd ?_); (case hgd => exact rfl); intro zO w1 hv1 hm1 hg1 hl1; have HV1 := Lib.hid hv1; have HM1 := Lib.hid hm1; have HG1 := Lib.hid (And.intro hg1 hl1); clear hv1 hm1 hg1 hl1)
  have HV2 := Lib.hid (HV1.out.alloc (.cells #[.int .i64 0, .int .i64 0] 57))
  have HE2 := Lib.hid (Blk.new w1 57 #[.int .i64 0, .int .i64 0])
  have HM2 := Lib.hid (HM1.out.alloc (.cells #[.int .i64 0, .int .i64 0] 57))
  obtain ⟨zE, hzE⟩ : ∃ zE, w1.heap.size = zE := ⟨_, rfl⟩
  rw [hzE] at HE2 HG1 ⊢
  generalize w1.alloc (.cells #[.int .i64 0, .int .i64 0] 57) = w2 at HV2 HE2 HM2 ⊢
  clear HV1 HM1 hzE
  go_upto_region 2 with (first | ((with_reducible refine wpList_alloc_op rfl ?hgd ?_); (case hgd => exact rfl); intro q w3 hv3 hm3 hg3 hl3; have HV3 := Lib.hid hv3; have HM3 := Lib.hid hm3; have HG3 := Lib.hid (And.intro hg3 hl3); clear hv3 hm3 hg3 hl3) | ((with_reducible refine wpList_store_opV (o := GOp.zero) _ _ rfl ?hgd ?hx ?hy HV3.out ?_); (case hgd => exact rfl); (case hx => exact rfl); (case hy => exact rfl); intro w5 hb5 hm5; have HB5 := Lib.hid hb5; have HM5 : Hid (Mod [] w2 w5) := Lib.hid (HM3.out.then hm5 (by have := HG3.out; simp; omega)); clear hb5 hm5))
  have HM6 : Hid (Mod [] w w5) := Lib.hid (HM2.out.trans HM5.out)
  have HI5 := Lib.hid (HI.out.mod HM6.out (by simp) (by simp))
  have hb : Calls Try.prog 65 #[ptr p] w5 _ := refByte_any p g xs _ w5 HI5.out
  have HB := Lib.hid hb; clear hb
  obtain ⟨A2, cap2, c0, c1, c2, c3, f0, f1, f2, f3, hl, u1, u2, u3⟩ := HI5.out.open_
  dsimp only [posOf, whyOf, badAt] at c1 c2 c3
  go_wp2_with fail
  refine HB.out.mono ?_
  clear c0 c1 c2 c3 f0 f1 f2 f3 hl u1 u2 u3
  have HK : Hid (rdOp xs m l = (rdKind xs m).bind _) := Lib.hid (rdOp_kind xs m l)
  have HKD : Hid (rdKind xs m = (rdByte xs m).bind _) := Lib.hid rfl
  show ∀ e' w', RdQ w5 p g xs bv (bv 0) (rdByte xs m) e' w' → _
  generalize rdByte xs m = r0 at HKD HB ⊢
  rintro e' w6 ⟨rfl, hI6, hm6⟩
  have hpw := HI.out.lt
  have hgw := HI.out.g_lt
  obtain ⟨y0, a0, hya⟩ := r0.errv_nat
  rw [Rd.valv_getD, hya]
  unfold errV
  obtain ⟨e, he⟩ : ∃ e, w6.heap.size = e := ⟨_, rfl⟩
  have HOT : Hid (OT w p g xs gl (.slice A l.length cap) l zO zE q e r0.st GOp.zero y0 a0 (w6.alloc (.cells #[.int .i64 y0, .int .i64 a0] 57))) := Lib.hid (by
    have h1 := HG1.out
    have h2 := HG3.out
    have h3 := HE2.out.lt
    have h4 := HB5.out.lt
    have h5 := hm6.size
    have h6 := HM2.out.size
    have h7 : Mod [p] w5 (w6.alloc (.cells #[.int .i64 y0, .int .i64 a0] 57)) := hm6.alloc _
    refine ⟨hI6.mod ((Mod.refl [] w6).alloc _) (by simp) (by simp), Blk.mod HB5.out h7 (by simp; omega), he ▸ Blk.new w6 _ _, (HV2.out.mod HM5.out (by simp)).mod h7 (by simp; omega), (HE2.out.mod HM5.out (by simp)).mod h7 (by simp; omega), (HS.out.mod HM6.out (by simp)).mod h7 (fun h0 => by have := hlp h0; simp; omega), (HM6.out.mono (by simp)).trans h7, hpw, h1.1, h1.2, by omega, by omega, hgw, fun h0 => ⟨?_, hlp h0⟩⟩
    obtain ⟨_, _, _, _, _, hlt', _⟩ := HS.out.at_ h0
    exact hlt')
  have HYA := Lib.hid hya
  clear hya HV2 HE2 HG1 HG3 HM2 HV3 HM3 HB5 HM5 HM6 HI5 HB hI6 hm6 hpw hgw
  go_upto_region 4 with fail
  generalize w6.alloc (.cells #[.int .i64 (y0 : Int), .int .i64 (a0 : Int)] 57) = wr at *
  obtain ⟨c0, c1, c2, c3, c36, e0, e1, fq, fe0, fe1, pp, hqe, heq, hql, hel⟩ := HOT.out.open_
  cases r0 with
  | bad y a =>
    have hy0 : y0 = y := by have h1 : errV y a = errV y0 a0 := HYA.out; unfold errV at h1; simp at h1; omega
    have ha0 : a0 = a := by have h1 : errV y a = errV y0 a0 := HYA.out; unfold errV at h1; simp at h1; omega
    subst hy0 ha0
    have hy : ¬ ((y0 : Int) = 0) := by have := HOT.out.1.2.2 y0 a0 rfl; omega
    have HRB : Hid (rdOp xs m l = .bad y0 a0) := Lib.hid (by rw [HK.out, HKD.out]; rfl)
    clear HK HKD
    go_wp2_with fail
    have hlo := HOT.out.loado; have hle := HOT.out.loade; have hw0 : Mod [zO, zE] wr (World.drew wr) := (Mod.refl _ wr).drew; have HZO := Lib.hid (Blk.mod HOT.out.2.2.2.1 (Mod.refl [] wr).drew (by simp)); have HZE := Lib.hid HOT.out.2.2.2.2.1; have HNZ : Hid (zE ∉ [zO] ∧ zO ∉ [zE]) := Lib.hid HOT.out.nz
    refine wp_regionE (Mod [zO, zE]) (by kernel_rfl) ?_
    simp only [List.size_toArray, List.length_cons, List.length_nil, Nat.zero_add, Nat.reduceAdd]
    refine wpAnyE_takeL (preMod _) 0 (v := ?_) rfl (by kernel_rfl) (by kernel_rfl) (by kernel_rfl) (fun _ _ _ h => h) (Or.inl ⟨by rfl, ?_⟩) ?_
    rotate_left; (intro W hW; (try dsimp only at hW); refine (run_load_cells rtOp (.tmp 6) (by rfl) (by rfl) (GOp.cells_length _) (hlo W (hw0.trans hW))).trans ?_; try with_reducible rfl)
    (try simp only [Act.put, List.setIfInBounds_toArray, List.set_cons_zero, List.set_cons_succ])
    refine wpAnyE_takeL (preMod _) 1 (v := ?_) rfl (by kernel_rfl) (by kernel_rfl) (by kernel_rfl) (fun _ _ _ h => h) (Or.inl ⟨by rfl, ?_⟩) ?_
    rotate_left; (intro W hW; (try dsimp only at hW); refine (run_load_cells rtErr (.tmp 9) (by rfl) (by rfl) rfl (hle W (hw0.trans hW))).trans ?_; try with_reducible rfl)
    (try simp only [Act.put, List.setIfInBounds_toArray, List.set_cons_zero, List.set_cons_succ])
    refine wpAnyE_ready (rs := [2]) (by kernel_rfl) (by simp) ?_
    refine AllReadyE.consL rfl (fun K hK => ?_) AllReadyE.nil
    rw [if_pos (by rfl)]
    refine opwp_store_blk rtOp _ _ (by rfl) (by rfl) (by rfl) HZO.out (GOp.cells_length _) (by simp [GOp.cells_length]) (GOp.one _) ?_
    intro w9 hb9 hm9
    have hmE : Mod [zO, zE] (World.drew wr) w9 := hm9.mono (by simp)
    have HB9 := Lib.hid hb9
    have HM9 := Lib.hid ((Mod.refl [zO] wr).drew.trans hm9)
    have HZE9 := Lib.hid (HZE.out.mod HM9.out HNZ.out.1)
    clear hb9 hm9
    refine hK.out _ _ (by first | exact hmE | exact Mod.refl _ _ | exact (Mod.refl _ _).alloc _) ?_
    clear hK
    (try simp only [Act.put, List.setIfInBounds_toArray, List.set_cons_zero, List.set_cons_succ])
    refine wpAnyE_ready (rs := [3]) (by kernel_rfl) (by simp) ?_
    refine AllReadyE.consL rfl (fun K hK => ?_) AllReadyE.nil
    rw [if_pos (by rfl)]
    refine opwp_store_blk rtErr _ _ (by rfl) (by rfl) (by rfl) HZE9.out rfl rfl (by simp [Value.oneCell']) ?_
    intro w10 hb10 hm10
    have hmE : Mod [zO, zE] w9 w10 := hm10.mono (by simp)
    have HB10 := Lib.hid (HB9.out.mod hm10 HNZ.out.2)
    have HX10 := Lib.hid hb10
    have HM10 := Lib.hid ((HM9.out.mono (by simp)).trans (hm10.mono (by simp) : Mod [zO, zE] w9 w10))
    clear hb10 hm10
    refine hK.out _ _ (by first | exact hmE | exact Mod.refl _ _ | exact (Mod.refl _ _).alloc _) ?_
    clear hK
    (try simp only [Act.put, List.setIfInBounds_toArray, List.set_cons_zero, List.set_cons_succ])
    refine wpAnyE_done (by kernel_rfl) ?_ _
    go_wp2
    refine bodyPost_ret (results_row2 rtOp rtErr rfl rfl HB10.out (by simp [GOp.cells_length]) rfl HX10.out rfl) rfl ?_
    rw [HRB.out]
    exact OT.fin HOT.out HM10.out rfl rfl (fun _ _ h => by cases h)
  | ok k p1 =>
    have hy0 : y0 = 0 := by have h1 : errV 0 0 = errV y0 a0 := HYA.out; unfold errV at h1; simp at h1; omega
    have ha0 : a0 = 0 := by have h1 : errV 0 0 = errV y0 a0 := HYA.out; unfold errV at h1; simp at h1; omega
    subst hy0 ha0
    dsimp only [Rd.getD, bv] at *
    have hk8 := k.toNat_lt
    by_cases hk : known k.toNat = true
    · have hk2 : 1 ≤ k.toNat ∧ k.toNat ≤ 9 := by simp [known] at hk; omega
      have hk3 : ¬ ((k.toNat : Int) < 1) := by omega
      have hk4 : ¬ ((9 : Int) < (k.toNat : Int)) := by omega
      have HKK : Hid (rdKind xs m = .ok k p1) := Lib.hid (by rw [HKD.out]; simp [Rd.bind, hk])
      have HKN := Lib.hid (fun ha => rdOp_noAt xs m l k p1 HKK.out ha)
      have HKA := Lib.hid (fun ha => rdOp_atk xs m l k p1 HKK.out ha)
      clear HK HKD HKK
      have HOTnew := Lib.hid (HOT.out.setQ 0 (.int .i64 (k.toNat : Int)) (o1 k ⟨#[]⟩ ⟨#[]⟩ 0) (o1_set0 k)); clear HOT; have HOT := HOTnew; clear HOTnew
      go_upto_region 9 with fail
      clear c0 c1 c2 c3 c36 e0 e1 fq fe0 fe1 pp hqe heq hql hel
      generalize wr.setCell ⟨q, 0, none⟩ (.int .i64 (k.toNat : Int)) = wr at *
      have HT := Lib.hid (refText_any p g xs _ wr HOT.out.1 HZ.out)
      obtain ⟨c0, c1, c2, c3, c36, e0, e1, fq, fe0, fe1, pp, hqe, heq, hql, hel⟩ := HOT.out.open_
      go_wp2_with fail
      refine HT.out.mono ?_
      show ∀ e' w', RdQ wr p g xs (fun s => .string s) (.string ⟨#[]⟩) (rdText xs p1) e' w' → _
      generalize rdText xs p1 = r2 at HKN HKA ⊢
      clear HYA HT
      rintro e' w7 ⟨rfl, hI7, hm7⟩
      obtain ⟨y2, a2, hya⟩ := Rd.errv_nat r2
      have hvv : Rd.valv (fun s => Value.string s) (.string ⟨#[]⟩) r2 = (.string (r2.getD ⟨#[]⟩)) := Rd.valv_getD _ _ _
      rw [hvv, hya]
      unfold errV
      have HOTnew := Lib.hid (HOT.out.read hI7 hm7); clear HOT; have HOT := HOTnew; clear HOTnew
      clear hI7 hm7
      clear c0 c1 c2 c3 c36 e0 e1 fq fe0 fe1 pp hqe heq hql hel
      obtain ⟨c0, c1, c2, c3, c36, e0, e1, fq, fe0, fe1, pp, hqe, heq, hql, hel⟩ := HOT.out.open_
      have HYA := Lib.hid hya
      clear hya hvv
      have HOTnew := Lib.hid ((HOT.out.setQ 1 ((.string (r2.getD ⟨#[]⟩))) (o1 k (r2.getD ⟨#[]⟩) ⟨#[]⟩ 0) (o1_set1 k _ _ _ _)).setE y2 a2); clear HOT; have HOT := HOTnew; clear HOTnew
      go_upto_region 10 with fail
      clear c0 c1 c2 c3 c36 e0 e1 fq fe0 fe1 pp hqe heq hql hel
      generalize ((w7.setCell ⟨q, 1, none⟩ (.string (r2.getD ⟨#[]⟩))).setCell ⟨e, 0, none⟩ (.int .i64 (y2 : Int))).setCell ⟨e, 1, none⟩ (.int .i64 (a2 : Int)) = wr at *
      have HTX := hasText_any (k.toNat : Int)
      obtain ⟨c0, c1, c2, c3, c36, e0, e1, fq, fe0, fe1, pp, hqe, heq, hql, hel⟩ := HOT.out.open_
      dsimp only [o1] at c0 c1 c2 c3
      go_upto_if 56 with (refine (HTX wr).mono ?_; rintro e' w9 ⟨rfl, rfl⟩)
      clear c0 c1 c2 c3 c36 e0 e1 fq fe0 fe1 pp hqe heq hql hel
      go_cut [10] from 15 (fun _ wc => ∃ y a : Nat, Hid ((rText xs k r2.st).errv = errV y a) ∧ Hid (OT w p g xs gl (.slice A l.length cap) l zO zE q e (rText xs k r2.st).st (o1 k (r2.getD ⟨#[]⟩) ((rText xs k r2.st).getD ⟨#[]⟩) 0) y a wc))
      case first =>
        clear HKN HKA
        by_cases ht : hasText (k.toNat : Int) = true
        · have HT := Lib.hid (refText_any p g xs _ wr HOT.out.1 HZ.out)
          have HRT : Hid (rText xs k r2.st = r2.st.bind fun _ m => rdText xs m) := Lib.hid (by unfold rText rdIf; rw [if_pos ht])
          rw [ht]
          obtain ⟨c0, c1, c2, c3, c36, e0, e1, fq, fe0, fe1, pp, hqe, heq, hql, hel⟩ := HOT.out.open_
          go_wp2_with fail
          refine HT.out.mono ?_
          rw [← HRT.out]
          clear HRT HT
          obtain ⟨r3, hr3⟩ : ∃ r3, rText xs k r2.st = r3 := ⟨_, rfl⟩
          rw [hr3]
          have HR3 := Lib.hid hr3
          clear hr3
          clear HYA
          rintro e' w7 ⟨rfl, hI7, hm7⟩
          obtain ⟨y2, a2, hya⟩ := Rd.errv_nat r3
          have hvv : Rd.valv (fun s => Value.string s) (.string ⟨#[]⟩) r3 = (.string (r3.getD ⟨#[]⟩)) := Rd.valv_getD _ _ _
          rw [hvv, hya]
          unfold errV
          have HOTnew := Lib.hid (HOT.out.read hI7 hm7); clear HOT; have HOT := HOTnew; clear HOTnew
          clear hI7 hm7
          clear c0 c1 c2 c3 c36 e0 e1 fq fe0 fe1 pp hqe heq hql hel
          obtain ⟨c0, c1, c2, c3, c36, e0, e1, fq, fe0, fe1, pp, hqe, heq, hql, hel⟩ := HOT.out.open_
          have HYA := Lib.hid hya
          clear hya hvv
          have HOTnew := Lib.hid ((HOT.out.setQ 2 ((.string (r3.getD ⟨#[]⟩))) (o1 k (r2.getD ⟨#[]⟩) (r3.getD ⟨#[]⟩) 0) (o1_set2 k _ _ _ _)).setE y2 a2); clear HOT; have HOT := HOTnew; clear HOTnew
          go_wp2_with fail
          clear c0 c1 c2 c3 c36 e0 e1 fq fe0 fe1 pp hqe heq hql hel
          generalize ((w7.setCell ⟨q, 2, none⟩ (.string (r3.getD ⟨#[]⟩))).setCell ⟨e, 0, none⟩ (.int .i64 (y2 : Int))).setCell ⟨e, 1, none⟩ (.int .i64 (a2 : Int)) = wr at *
          go_meet
          case rel => rw [HR3.out]; exact ⟨y2, a2, HYA, HOT⟩
        · rw [Bool.not_eq_true] at ht
          have HRT : Hid (rText xs k r2.st = r2.st.bind fun _ m => .ok ⟨#[]⟩ m) := Lib.hid (by unfold rText rdIf; rw [ht]; rfl)
          rw [ht]
          go_wp2_with fail
          go_meet
          case rel =>
            rw [HRT.out]
            refine ⟨y2, a2, Lib.hid ?_, Lib.hid ?_⟩
            · rw [← HYA.out]; cases r2 <;> rfl
            · have := HOT.out
              cases r2 <;> exact this
      case rest =>
        obtain ⟨y3, a3, HYA3, HOT3⟩ := hcut
        clear HYA HOT
        generalize rText xs k r2.st = r3 at *
        obtain ⟨key, hkey⟩ : ∃ key, r2.getD ⟨#[]⟩ = key := ⟨_, rfl⟩
        obtain ⟨text, htext⟩ : ∃ text, r3.getD ⟨#[]⟩ = text := ⟨_, rfl⟩
        rw [hkey, htext] at HOT3 HKN HKA
        clear hkey htext
        obtain ⟨c0, c1, c2, c3, c36, e0, e1, fq, fe0, fe1, pp, hqe, heq, hql, hel⟩ := HOT3.out.open_
        dsimp only [o1] at c0 c1 c2 c3
        go_upto_if 65 with fail
        clear c0 c1 c2 c3 c36 e0 e1 fq fe0 fe1 pp hqe heq hql hel
        clear HTX
        go_cut [] from 15 (fun wc => ∃ y a : Nat, Hid ((rInt xs k r3.st).errv = errV y a) ∧ Hid (OT w p g xs gl (.slice A l.length cap) l zO zE q e (rInt xs k r3.st).st (o1 k key text ((rInt xs k r3.st).getD 0)) y a wc))
        case first =>
          clear HKN HKA
          trace_state
          by_cases ht : ((k.toNat : Int) == 6) = true
          · have HT := Lib.hid (refSigned_any p g xs _ wc HOT3.out.1)
            have HRT : Hid (rInt xs k r3.st = r3.st.bind fun _ m => rdSigned xs m) := Lib.hid (by unfold rInt rdIf; rw [if_pos ht])
            have HOT := HOT3
            obtain ⟨c0, c1, c2, c3, c36, e0, e1, fq, fe0, fe1, pp, hqe, heq, hql, hel⟩ := HOT.out.open_
            rw [ht]
            go_wp2_with fail
            refine HT.out.mono ?_
            rw [← HRT.out]
            clear HRT HT
            obtain ⟨r4, hr4⟩ : ∃ r4, rInt xs k r3.st = r4 := ⟨_, rfl⟩
            rw [hr4]
            have HR4 := Lib.hid hr4
            clear hr4
            rintro e' w7 ⟨rfl, hI7, hm7⟩
            obtain ⟨y2, a2, hya⟩ := Rd.errv_nat r4
            have hvv : Rd.valv (fun n => Value.int .i64 n) (.int .i64 0) r4 = (.int .i64 (r4.getD 0)) := Rd.valv_getD _ _ _
            rw [hvv, hya]
            unfold errV
            have HOTnew := Lib.hid (HOT.out.read hI7 hm7); clear HOT; have HOT := HOTnew; clear HOTnew
            clear hI7 hm7
            clear c0 c1 c2 c3 c36 e0 e1 fq fe0 fe1 pp hqe heq hql hel
            obtain ⟨c0, c1, c2, c3, c36, e0, e1, fq, fe0, fe1, pp, hqe, heq, hql, hel⟩ := HOT.out.open_
            have HYA := Lib.hid hya
            clear hya hvv
            have HOTnew := Lib.hid ((HOT.out.setQ 3 ((.int .i64 (r4.getD 0))) (o1 k key text (r4.getD 0)) (o1_set3 k _ _ _ _)).setE y2 a2); clear HOT; have HOT := HOTnew; clear HOTnew
            go_wp2_with fail
            clear c0 c1 c2 c3 c36 e0 e1 fq fe0 fe1 pp hqe heq hql hel
            generalize ((w7.setCell ⟨q, 3, none⟩ (.int .i64 (r4.getD 0))).setCell ⟨e, 0, none⟩ (.int .i64 (y2 : Int))).setCell ⟨e, 1, none⟩ (.int .i64 (a2 : Int)) = wr at *
            go_meet
            case rel => rw [HR4.out]; exact ⟨y2, a2, HYA, HOT⟩
          · rw [Bool.not_eq_true] at ht
            have HRT : Hid (rInt xs k r3.st = r3.st.bind fun _ m => .ok 0 m) := Lib.hid (by unfold rInt rdIf; rw [ht]; rfl)
            rw [ht]
            go_wp2_with fail
            go_meet
            case rel =>
              rw [HRT.out]
              refine ⟨y3, a3, Lib.hid ?_, Lib.hid ?_⟩
              · rw [← HYA3.out]; cases r3 <;> rfl
              · have := HOT3.out
                cases r3 <;> exact this
        case rest =>
          clear HYA3 HOT3
          obtain ⟨y4, a4, HYA, HOT⟩ := hcut
          generalize rInt xs k r3.st = r4 at *
          obtain ⟨n4, hn4⟩ : ∃ n4, r4.getD 0 = n4 := ⟨_, rfl⟩
          rw [hn4] at HOT HKN HKA
          clear hn4
          have HTX := hasAt_any (k.toNat : Int)
          obtain ⟨c0, c1, c2, c3, c36, e0, e1, fq, fe0, fe1, pp, hqe, heq, hql, hel⟩ := HOT.out.open_
          dsimp only [o1] at c0 c1 c2 c3
          by_cases ha : hasAt (k.toNat : Int) = false
          · have HR := Lib.hid (HKN.out ha)
            clear HKN HKA
            go_wp2_with (refine (HTX wc).mono ?_; rintro e' w9 ⟨rfl, rfl⟩; rw [ha])
            have hlo := HOT.out.loado; have hle := HOT.out.loade; have hw0 : Mod [zO, zE] wc (World.drew wc) := (Mod.refl _ wc).drew; have HZO := Lib.hid (Blk.mod HOT.out.2.2.2.1 (Mod.refl [] wc).drew (by simp)); have HZE := Lib.hid HOT.out.2.2.2.2.1; have HNZ : Hid (zE ∉ [zO] ∧ zO ∉ [zE]) := Lib.hid HOT.out.nz
            refine wp_regionE (Mod [zO, zE]) (by kernel_rfl) ?_
            simp only [List.size_toArray, List.length_cons, List.length_nil, Nat.zero_add, Nat.reduceAdd]
            refine wpAnyE_takeL (preMod _) 0 (v := ?_) rfl (by kernel_rfl) (by kernel_rfl) (by kernel_rfl) (fun _ _ _ h => h) (Or.inl ⟨by rfl, ?_⟩) ?_
            rotate_left; (intro W hW; (try dsimp only at hW); refine (run_load_cells rtOp (.tmp 6) (by rfl) (by rfl) (GOp.cells_length _) (hlo W (hw0.trans hW))).trans ?_; try with_reducible rfl)
            (try simp only [Act.put, List.setIfInBounds_toArray, List.set_cons_zero, List.set_cons_succ])
            refine wpAnyE_takeL (preMod _) 1 (v := ?_) rfl (by kernel_rfl) (by kernel_rfl) (by kernel_rfl) (fun _ _ _ h => h) (Or.inl ⟨by rfl, ?_⟩) ?_
            rotate_left; (intro W hW; (try dsimp only at hW); refine (run_load_cells rtErr (.tmp 9) (by rfl) (by rfl) rfl (hle W (hw0.trans hW))).trans ?_; try with_reducible rfl)
            (try simp only [Act.put, List.setIfInBounds_toArray, List.set_cons_zero, List.set_cons_succ])
            refine wpAnyE_ready (rs := [2]) (by kernel_rfl) (by simp) ?_
            refine AllReadyE.consL rfl (fun K hK => ?_) AllReadyE.nil
            rw [if_pos (by rfl)]
            refine opwp_store_blk rtOp _ _ (by rfl) (by rfl) (by rfl) HZO.out (GOp.cells_length _) (by simp [GOp.cells_length]) (GOp.one _) ?_
            intro w9 hb9 hm9
            have hmE : Mod [zO, zE] (World.drew wc) w9 := hm9.mono (by simp)
            have HB9 := Lib.hid hb9
            have HM9 := Lib.hid ((Mod.refl [zO] wc).drew.trans hm9)
            have HZE9 := Lib.hid (HZE.out.mod HM9.out HNZ.out.1)
            clear hb9 hm9
            refine hK.out _ _ (by first | exact hmE | exact Mod.refl _ _ | exact (Mod.refl _ _).alloc _) ?_
            clear hK
            (try simp only [Act.put, List.setIfInBounds_toArray, List.set_cons_zero, List.set_cons_succ])
            refine wpAnyE_ready (rs := [3]) (by kernel_rfl) (by simp) ?_
            refine AllReadyE.consL rfl (fun K hK => ?_) AllReadyE.nil
            rw [if_pos (by rfl)]
            refine opwp_store_blk rtErr _ _ (by rfl) (by rfl) (by rfl) HZE9.out rfl rfl (by simp [Value.oneCell']) ?_
            intro w10 hb10 hm10
            have hmE : Mod [zO, zE] w9 w10 := hm10.mono (by simp)
            have HB10 := Lib.hid (HB9.out.mod hm10 HNZ.out.2)
            have HX10 := Lib.hid hb10
            have HM10 := Lib.hid ((HM9.out.mono (by simp)).trans (hm10.mono (by simp) : Mod [zO, zE] w9 w10))
            clear hb10 hm10
            refine hK.out _ _ (by first | exact hmE | exact Mod.refl _ _ | exact (Mod.refl _ _).alloc _) ?_
            clear hK
            (try simp only [Act.put, List.setIfInBounds_toArray, List.set_cons_zero, List.set_cons_succ])
            refine wpAnyE_done (by kernel_rfl) ?_ _
            go_wp2
            refine bodyPost_ret (results_row2 rtOp rtErr rfl rfl HB10.out (by simp [GOp.cells_length]) rfl HX10.out rfl) rfl ?_
            rw [HR.out]
            refine OT.fin HOT.out HM10.out (Eq.trans ?_ HYA.out) ?_ ?_
            · cases r4 <;> rfl
            · cases r4 <;> rfl
            · intro o' m' h; cases r4 <;> cases h; rfl
          · rw [Bool.not_eq_false] at ha
            have HR := Lib.hid (HKA.out ha)
            clear HKN HKA
            cases r4 with
            | bad y a =>
              have hy0 : y4 = y := by have h1 : errV y a = errV y4 a4 := HYA.out; unfold errV at h1; simp at h1; omega
              have ha0 : a4 = a := by have h1 : errV y a = errV y4 a4 := HYA.out; unfold errV at h1; simp at h1; omega
              subst hy0 ha0
              have hy : ¬ ((y4 : Int) = 0) := by have := HOT.out.1.2.2 y4 a4 rfl; omega
              have HRB : Hid (rdOp xs m l = .bad y4 a4) := HR
              clear HR
              go_wp2_with (refine (HTX wc).mono ?_; rintro e' w9 ⟨rfl, rfl⟩; rw [ha])
              have hlo := HOT.out.loado; have hle := HOT.out.loade; have hw0 : Mod [zO, zE] wc (World.drew wc) := (Mod.refl _ wc).drew; have HZO := Lib.hid (Blk.mod HOT.out.2.2.2.1 (Mod.refl [] wc).drew (by simp)); have HZE := Lib.hid HOT.out.2.2.2.2.1; have HNZ : Hid (zE ∉ [zO] ∧ zO ∉ [zE]) := Lib.hid HOT.out.nz
              refine wp_regionE (Mod [zO, zE]) (by kernel_rfl) ?_
              simp only [List.size_toArray, List.length_cons, List.length_nil, Nat.zero_add, Nat.reduceAdd]
              refine wpAnyE_takeL (preMod _) 0 (v := ?_) rfl (by kernel_rfl) (by kernel_rfl) (by kernel_rfl) (fun _ _ _ h => h) (Or.inl ⟨by rfl, ?_⟩) ?_
              rotate_left; (intro W hW; (try dsimp only at hW); refine (run_load_cells rtOp (.tmp 6) (by rfl) (by rfl) (GOp.cells_length _) (hlo W (hw0.trans hW))).trans ?_; try with_reducible rfl)
              (try simp only [Act.put, List.setIfInBounds_toArray, List.set_cons_zero, List.set_cons_succ])
              refine wpAnyE_takeL (preMod _) 1 (v := ?_) rfl (by kernel_rfl) (by kernel_rfl) (by kernel_rfl) (fun _ _ _ h => h) (Or.inl ⟨by rfl, ?_⟩) ?_
              rotate_left; (intro W hW; (try dsimp only at hW); refine (run_load_cells rtErr (.tmp 9) (by rfl) (by rfl) rfl (hle W (hw0.trans hW))).trans ?_; try with_reducible rfl)
              (try simp only [Act.put, List.setIfInBounds_toArray, List.set_cons_zero, List.set_cons_succ])
              refine wpAnyE_ready (rs := [2]) (by kernel_rfl) (by simp) ?_
              refine AllReadyE.consL rfl (fun K hK => ?_) AllReadyE.nil
              rw [if_pos (by rfl)]
              refine opwp_store_blk rtOp _ _ (by rfl) (by rfl) (by rfl) HZO.out (GOp.cells_length _) (by simp [GOp.cells_length]) (GOp.one _) ?_
              intro w9 hb9 hm9
              have hmE : Mod [zO, zE] (World.drew wc) w9 := hm9.mono (by simp)
              have HB9 := Lib.hid hb9
              have HM9 := Lib.hid ((Mod.refl [zO] wc).drew.trans hm9)
              have HZE9 := Lib.hid (HZE.out.mod HM9.out HNZ.out.1)
              clear hb9 hm9
              refine hK.out _ _ (by first | exact hmE | exact Mod.refl _ _ | exact (Mod.refl _ _).alloc _) ?_
              clear hK
              (try simp only [Act.put, List.setIfInBounds_toArray, List.set_cons_zero, List.set_cons_succ])
              refine wpAnyE_ready (rs := [3]) (by kernel_rfl) (by simp) ?_
              refine AllReadyE.consL rfl (fun K hK => ?_) AllReadyE.nil
              rw [if_pos (by rfl)]
              refine opwp_store_blk rtErr _ _ (by rfl) (by rfl) (by rfl) HZE9.out rfl rfl (by simp [Value.oneCell']) ?_
              intro w10 hb10 hm10
              have hmE : Mod [zO, zE] w9 w10 := hm10.mono (by simp)
              have HB10 := Lib.hid (HB9.out.mod hm10 HNZ.out.2)
              have HX10 := Lib.hid hb10
              have HM10 := Lib.hid ((HM9.out.mono (by simp)).trans (hm10.mono (by simp) : Mod [zO, zE] w9 w10))
              clear hb10 hm10
              refine hK.out _ _ (by first | exact hmE | exact Mod.refl _ _ | exact (Mod.refl _ _).alloc _) ?_
              clear hK
              (try simp only [Act.put, List.setIfInBounds_toArray, List.set_cons_zero, List.set_cons_succ])
              refine wpAnyE_done (by kernel_rfl) ?_ _
              go_wp2
              refine bodyPost_ret (results_row2 rtOp rtErr rfl rfl HB10.out (by simp [GOp.cells_length]) rfl HX10.out rfl) rfl ?_
              rw [HRB.out]
              exact OT.fin HOT.out HM10.out rfl rfl (fun _ _ h => by cases h)
            | ok n p4 =>
              have hy0 : y4 = 0 := by have h1 : errV 0 0 = errV y4 a4 := HYA.out; unfold errV at h1; simp at h1; omega
              have ha0 : a4 = 0 := by have h1 : errV 0 0 = errV y4 a4 := HYA.out; unfold errV at h1; simp at h1; omega
              subst hy0 ha0
              dsimp only [posOf, Rd.st] at pp
              have HP4 : Hid (p4 ≤ xs.length) := Lib.hid HOT.out.1.2.1
              have HR2 : Hid (rdOp xs m l = (rdAt xs p4).bind _) := HR
              clear HR
              have hr2 := HR2.out
              rw [rdAt_eq, Rd.bind_assoc] at hr2
              have HR := Lib.hid hr2
              clear HR2 hr2
              have HNU : Hid (Calls _ _ _ wc (RdQ wc p g xs (fun x => .int .u64 (x : Nat)) (.int .u64 0) (rdNum xs p4 1024))) := Lib.hid (refNumber_any' 1024 p g (by omega) xs _ wc HOT.out.1)
              have HN5 : Hid ((rdNum xs p4 1024).getD 0 ≤ 1024) := Lib.hid (by
                rcases h : rdNum xs p4 1024 with ⟨a, b⟩ | ⟨a, b⟩
                · exact (rdNum_ok h HOT.out.1.2.1).1
                · exact Nat.zero_le _)
              go_upto_region 19 with (refine (HTX wc).mono ?_; rintro e' w9 ⟨rfl, rfl⟩; rw [ha])
              clear HTX
              generalize rdNum xs p4 1024 = r5 at *
              go_wp2_with fail
              refine HNU.out.mono ?_
              rintro e' w7 ⟨rfl, hI7, hm7⟩
              obtain ⟨y5, a5, hya⟩ := Rd.errv_nat r5
              obtain ⟨n5, hn5⟩ : ∃ n5, r5.getD 0 = n5 := ⟨_, rfl⟩
              have hvv : Rd.valv (fun x : Nat => Value.int .u64 (x : Nat)) (.int .u64 0) r5 = (.int .u64 (n5 : Nat)) := by rw [← hn5]; exact Rd.valv_getD _ _ _
              rw [hvv, hya]
              unfold errV
              have hn6 : n5 ≤ 1024 := hn5 ▸ HN5.out
              have HOTnew := Lib.hid (HOT.out.read hI7 hm7); clear HOT; have HOT := HOTnew; clear HOTnew
              clear c0 c1 c2 c3 c36 e0 e1 fq fe0 fe1 pp hqe heq hql hel
              clear HYA HNU HN5 hvv hI7 hm7
              have HYA := Lib.hid hya
              clear hya
              obtain ⟨c0, c1, c2, c3, c36, e0, e1, fq, fe0, fe1, pp, hqe, heq, hql, hel⟩ := HOT.out.open_
              have HOTnew := Lib.hid ((HOT.out.setE y5 a5)); clear HOT; have HOT := HOTnew; clear HOTnew
              go_upto_region 20 with fail
              clear c0 c1 c2 c3 c36 e0 e1 fq fe0 fe1 pp hqe heq hql hel
              generalize (w7.setCell ⟨e, 0, none⟩ (.int .i64 (y5 : Int))).setCell ⟨e, 1, none⟩ (.int .i64 (a5 : Int)) = wr at *
              obtain ⟨c0, c1, c2, c3, c36, e0, e1, fq, fe0, fe1, pp, hqe, heq, hql, hel⟩ := HOT.out.open_
              have HOTnew := Lib.hid ((HOT.out.setQ 36 (.int .i64 (n5 : Int)) _ (o1_36 k key text n4 n5))); clear HOT; have HOT := HOTnew; clear HOTnew
              go_upto_if 98 with fail
              clear c0 c1 c2 c3 c36 e0 e1 fq fe0 fe1 pp hqe heq hql hel
              generalize (wr.setCell ⟨q, 36, none⟩ (.int .i64 (n5 : Int))) = wr at *
              have HN5 := Lib.hid hn5
              clear hn5
              rw [HN5.out] at HR
              go_cut [] from 15 (fun wc => ∃ y a : Nat, Hid ((rHash xs r5).errv = errV y a) ∧ Hid (OT w p g xs gl (.slice A l.length cap) l zO zE q e (rHash xs r5).st ({ o1 k key text n4 with at_ := ⟨(rHash xs r5).getD GHash.zero, n5⟩ } : GOp) y a wc))
              case first =>
                clear HR
                by_cases hn0 : n5 = 0
                · have HRT : Hid (rHash xs r5 = r5.st.bind fun _ m => .ok GHash.zero m) := Lib.hid (by unfold rHash; rw [HN5.out, if_pos hn0])
                  subst hn0
                  go_wp2_with fail
                  go_meet
                  case rel =>
                    rw [HRT.out]
                    refine ⟨y5, a5, Lib.hid ?_, Lib.hid ?_⟩
                    · rw [← HYA.out]; cases r5 <;> rfl
                    · have := HOT.out
                      cases r5 <;> exact this
                · have HT := Lib.hid (refHashRd_any p g xs _ wr HOT.out.1 HZ.out)
                  have HRT : Hid (rHash xs r5 = r5.st.bind fun _ m => rdHash xs m) := Lib.hid (by unfold rHash; rw [HN5.out, if_neg hn0])
                  have hn1 : ¬ ((n5 : Int) = 0) := by omega
                  obtain ⟨c0, c1, c2, c3, c36, e0, e1, fq, fe0, fe1, pp, hqe, heq, hql, hel⟩ := HOT.out.open_
                  go_wp2_with fail
                  refine HT.out.mono ?_
                  rw [← HRT.out]
                  clear HRT HT
                  obtain ⟨r6, hr6⟩ : ∃ r6, rHash xs r5 = r6 := ⟨_, rfl⟩
                  rw [hr6]
                  have HR6 := Lib.hid hr6
                  clear hr6
                  rintro e' w7 ⟨rfl, hI7, hm7⟩
                  obtain ⟨y6, a6, hya⟩ := Rd.errv_nat r6
                  have hvv : Rd.valv GHash.val GHash.zero.val r6 = (r6.getD GHash.zero).val := Rd.valv_getD _ _ _
                  rw [hvv, hya]
                  unfold errV
                  have HOTnew := Lib.hid (HOT.out.read hI7 hm7); clear HOT; have HOT := HOTnew; clear HOTnew
                  clear c0 c1 c2 c3 c36 e0 e1 fq fe0 fe1 pp hqe heq hql hel
                  clear HYA hvv hI7 hm7
                  have HYA := Lib.hid hya
                  clear hya
                  obtain ⟨c0, c1, c2, c3, c36, e0, e1, fq, fe0, fe1, pp, hqe, heq, hql, hel⟩ := HOT.out.open_
                  have HQB : Hid (Blk w7 q 33 (GOp.cells { o1 k key text n4 with at_ := ⟨GHash.zero, n5⟩ }).toArray) := Lib.hid HOT.out.2.1
                  go_wp2_with ((with_reducible refine wpList_store_part rtHash (k := 4) (cells := (r6.getD GHash.zero).cells) _ _ rfl ?hgd ?hx ?hy HQB.out ?hl ?hk (GHash.one _) ?_); (case hgd => exact rfl); (case hx => exact rfl); (case hy => exact rfl); (case hl => exact GHash.cells_length _); (case hk => rw [List.size_toArray, GOp.cells_length]; omega); intro w8 hv8 hm8; rw [GOp.part4 _ _ n5 rfl] at hv8; have HOT8 := Lib.hid (HOT.out.op hv8 hm8); clear hv8 hm8 HQB HOT; clear c0 c1 c2 c3 c36 e0 e1 fq fe0 fe1 pp hqe heq hql hel; obtain ⟨c0, c1, c2, c3, c36, e0, e1, fq, fe0, fe1, pp, hqe, heq, hql, hel⟩ := HOT8.out.open_)
                  go_meet
                  case rel =>
                    rw [HR6.out]
                    exact ⟨y6, a6, HYA, Lib.hid (HOT8.out.setE y6 a6)⟩
              case rest =>
                clear HYA HOT
                obtain ⟨y6, a6, HYA, HOT⟩ := hcut
                generalize rHash xs r5 = r6 at *
                obtain ⟨c0, c1, c2, c3, c36, e0, e1, fq, fe0, fe1, pp, hqe, heq, hql, hel⟩ := HOT.out.open_
                cases r6 with
                | bad y a =>
                  have hy0 : y6 = y := by have h1 : errV y a = errV y6 a6 := HYA.out; unfold errV at h1; simp at h1; omega
                  have ha0 : a6 = a := by have h1 : errV y a = errV y6 a6 := HYA.out; unfold errV at h1; simp at h1; omega
                  subst hy0 ha0
                  have hy : ¬ ((y6 : Int) = 0) := by have := HOT.out.1.2.2 y6 a6 rfl; omega
                  have HRB : Hid (rdOp xs m l = .bad y6 a6) := HR
                  clear HR
                  go_wp2_with fail
                  have hlo := HOT.out.loado; have hle := HOT.out.loade; have hw0 : Mod [zO, zE] wc (World.drew wc) := (Mod.refl _ wc).drew; have HZO := Lib.hid (Blk.mod HOT.out.2.2.2.1 (Mod.refl [] wc).drew (by simp)); have HZE := Lib.hid HOT.out.2.2.2.2.1; have HNZ : Hid (zE ∉ [zO] ∧ zO ∉ [zE]) := Lib.hid HOT.out.nz
                  refine wp_regionE (Mod [zO, zE]) (by kernel_rfl) ?_
                  simp only [List.size_toArray, List.length_cons, List.length_nil, Nat.zero_add, Nat.reduceAdd]
                  refine wpAnyE_takeL (preMod _) 0 (v := ?_) rfl (by kernel_rfl) (by kernel_rfl) (by kernel_rfl) (fun _ _ _ h => h) (Or.inl ⟨by rfl, ?_⟩) ?_
                  rotate_left; (intro W hW; (try dsimp only at hW); refine (run_load_cells rtOp (.tmp 6) (by rfl) (by rfl) (GOp.cells_length _) (hlo W (hw0.trans hW))).trans ?_; try with_reducible rfl)
                  (try simp only [Act.put, List.setIfInBounds_toArray, List.set_cons_zero, List.set_cons_succ])
                  refine wpAnyE_takeL (preMod _) 1 (v := ?_) rfl (by kernel_rfl) (by kernel_rfl) (by kernel_rfl) (fun _ _ _ h => h) (Or.inl ⟨by rfl, ?_⟩) ?_
                  rotate_left; (intro W hW; (try dsimp only at hW); refine (run_load_cells rtErr (.tmp 9) (by rfl) (by rfl) rfl (hle W (hw0.trans hW))).trans ?_; try with_reducible rfl)
                  (try simp only [Act.put, List.setIfInBounds_toArray, List.set_cons_zero, List.set_cons_succ])
                  refine wpAnyE_ready (rs := [2]) (by kernel_rfl) (by simp) ?_
                  refine AllReadyE.consL rfl (fun K hK => ?_) AllReadyE.nil
                  rw [if_pos (by rfl)]
                  refine opwp_store_blk rtOp _ _ (by rfl) (by rfl) (by rfl) HZO.out (GOp.cells_length _) (by simp [GOp.cells_length]) (GOp.one _) ?_
                  intro w9 hb9 hm9
                  have hmE : Mod [zO, zE] (World.drew wc) w9 := hm9.mono (by simp)
                  have HB9 := Lib.hid hb9
                  have HM9 := Lib.hid ((Mod.refl [zO] wc).drew.trans hm9)
                  have HZE9 := Lib.hid (HZE.out.mod HM9.out HNZ.out.1)
                  clear hb9 hm9
                  refine hK.out _ _ (by first | exact hmE | exact Mod.refl _ _ | exact (Mod.refl _ _).alloc _) ?_
                  clear hK
                  (try simp only [Act.put, List.setIfInBounds_toArray, List.set_cons_zero, List.set_cons_succ])
                  refine wpAnyE_ready (rs := [3]) (by kernel_rfl) (by simp) ?_
                  refine AllReadyE.consL rfl (fun K hK => ?_) AllReadyE.nil
                  rw [if_pos (by rfl)]
                  refine opwp_store_blk rtErr _ _ (by rfl) (by rfl) (by rfl) HZE9.out rfl rfl (by simp [Value.oneCell']) ?_
                  intro w10 hb10 hm10
                  have hmE : Mod [zO, zE] w9 w10 := hm10.mono (by simp)
                  have HB10 := Lib.hid (HB9.out.mod hm10 HNZ.out.2)
                  have HX10 := Lib.hid hb10
                  have HM10 := Lib.hid ((HM9.out.mono (by simp)).trans (hm10.mono (by simp) : Mod [zO, zE] w9 w10))
                  clear hb10 hm10
                  refine hK.out _ _ (by first | exact hmE | exact Mod.refl _ _ | exact (Mod.refl _ _).alloc _) ?_
                  clear hK
                  (try simp only [Act.put, List.setIfInBounds_toArray, List.set_cons_zero, List.set_cons_succ])
                  refine wpAnyE_done (by kernel_rfl) ?_ _
                  go_wp2
                  refine bodyPost_ret (results_row2 rtOp rtErr rfl rfl HB10.out (by simp [GOp.cells_length]) rfl HX10.out rfl) rfl ?_
                  rw [HRB.out]
                  exact OT.fin HOT.out HM10.out rfl rfl (fun _ _ h => by cases h)
                | ok h p6 =>
                  have hy0 : y6 = 0 := by have h1 : errV 0 0 = errV y6 a6 := HYA.out; unfold errV at h1; simp at h1; omega
                  have ha0 : a6 = 0 := by have h1 : errV 0 0 = errV y6 a6 := HYA.out; unfold errV at h1; simp at h1; omega
                  subst hy0 ha0
                  dsimp only [Rd.getD] at HOT
                  have HR2 : Hid (rdOp xs m l = if atMay l { o1 k key text n4 with at_ := ⟨h, n5⟩ } then .ok { o1 k key text n4 with at_ := ⟨h, n5⟩ } p6 else .bad 42 p4) := HR
                  clear HR
                  generalize ({ o1 k key text n4 with at_ := ⟨h, n5⟩ } : GOp) = o6 at *
                  go_upto_region 25 with fail
                  clear c0 c1 c2 c3 c36 e0 e1 fq fe0 fe1 pp hqe heq hql hel
                  clear HYA
                  have HLL := Lib.hid hll
                  go_cut [13] from 15 (fun s13 w' => ∃ A n c, s13 = .slice A n c ∧ Hid (OwnO w' (.slice A n c) (l ++ [o6])) ∧ Hid (Mod [] wc w'))
                  case first =>
                    clear HR2
                    have HOS : Hid (∀ W, From wc.heap.size wc W → OS W gl (.slice A l.length cap) l) := Lib.hid (fun W hW => HOT.out.2.2.2.2.2.1.mod hW.new (by simp))
                    have hlo : ∀ W, From wc.heap.size wc W → CellsAt W q 0 o6.cells := fun W hW => CellsAt.of_blk (Blk.mod HOT.out.2.1 hW.new (by simp))
                    obtain ⟨n0, hn0⟩ : ∃ n0, wc.heap.size = n0 := ⟨_, rfl⟩
                    rw [hn0] at HOS hlo
                    have HF : Hid (From n0 wc wc.drew) := Lib.hid (From.of (Mod.refl [] wc).drew (by simp))
                    have hw0 : From n0 wc wc.drew := HF.out
                    have HN0 := Lib.hid hn0
                    refine wp_regionE (From n0) (by kernel_rfl) ?_
                    simp only [List.size_toArray, List.length_cons, List.length_nil, Nat.zero_add, Nat.reduceAdd]
                    refine wpAnyE_takeL (preFrom n0) 0 (v := ?_) rfl (by kernel_rfl) (by kernel_rfl) (by kernel_rfl) (fun _ _ _ h => h) (Or.inl ⟨by rfl, ?_⟩) ?_
                    rotate_left; (intro W hW; (try dsimp only at hW); go_simp; try with_reducible rfl)
                    (try simp only [Act.put, List.setIfInBounds_toArray, List.set_cons_zero, List.set_cons_succ])
                    refine wpAnyE_takeL (preFrom n0) 2 (v := ?_) rfl (by kernel_rfl) (by kernel_rfl) (by kernel_rfl) (fun _ _ _ h => h) (Or.inl ⟨by rfl, ?_⟩) ?_
                    rotate_left; (intro W hW; (try dsimp only at hW); refine (run_load_cells rtOp (.tmp 6) (by rfl) (by rfl) (GOp.cells_length _) (hlo W (hw0.trans hW))).trans ?_; try with_reducible rfl)
                    (try simp only [Act.put, List.setIfInBounds_toArray, List.set_cons_zero, List.set_cons_succ])
                    refine wpAnyE_ready (rs := [1, 3]) (by kernel_rfl) (by simp) ?_
                    refine AllReadyE.consL rfl (fun K hK => ?_) ?_
                    · rw [if_pos (by rfl)]
                      refine opwp_of_list rfl (fun Q' hQ' => ?_)
                      refine wpList_append_ops rfl _ _ (by rfl) (OwnO.nil _) (by rfl) (HOS.out _ HF.out) (by rfl) ?_ (by have := HLL.out; simp; omega)
                      intro A1 n1 cap1 w1 ho1 hn1 hm1 hb1
                      refine hQ' _ _ ?_
                      have hmE : From n0 _ w1 := From.of hm1 (by simp [blks, Value.ownBlock])
                      have HO1 := Lib.hid ho1
                      have HB1 : Hid (∀ b ∈ blks (.slice A1 n1 cap1), n0 ≤ b) := Lib.hid (fun b hb => by rcases hb1.out b hb with h1 | h1; (simp [blks, Value.ownBlock] at h1); have := HF.out.size; have := HN0.out; omega)
                      (try have HS2new := Lib.hid (HS2.out.mod hm1 (by simp [blks, Value.ownBlock])); clear HS2; have HS2 := HS2new; clear HS2new)
                      have HFnew := Lib.hid (HF.out.trans hmE); clear HF; have HF := HFnew; clear HFnew
                      clear ho1 hm1 hb1 hn1
                      refine hK.out _ _ (by first | exact hmE | exact Mod.refl _ _ | exact (Mod.refl _ _).alloc _) ?_
                      clear hK
                      (try simp only [Act.put, List.setIfInBounds_toArray, List.set_cons_zero, List.set_cons_succ])
                      refine wpAnyE_ready (rs := [3]) (by kernel_rfl) (by simp) ?_
                      refine AllReadyE.consL rfl (fun K hK => ?_) AllReadyE.nil
                      rw [if_pos (by rfl)]
                      refine opwp_of_list rfl (fun Q' hQ' => ?_)
                      refine wpList_buildSlice_op (o := o6) _ (by rfl) rfl (by rfl) ?_
                      intro g2 w2 hs2 hm2 hg2 hl2
                      refine hQ' _ _ ?_
                      have hmE : From n0 _ w2 := From.of hm2 (by simp)
                      have HS2 := Lib.hid hs2
                      (try have HO1new := Lib.hid (HO1.out.mod hm2 (by simp)); clear HO1; have HO1 := HO1new; clear HO1new)
                      have HFnew := Lib.hid (HF.out.trans hmE); clear HF; have HF := HFnew; clear HFnew
                      clear hs2 hm2 hg2 hl2
                      refine hK.out _ _ (by first | exact hmE | exact Mod.refl _ _ | exact (Mod.refl _ _).alloc _) ?_
                      clear hK
                      (try simp only [Act.put, List.setIfInBounds_toArray, List.set_cons_zero, List.set_cons_succ])
                      refine wpAnyE_ready (rs := [4]) (by kernel_rfl) (by simp) ?_
                      refine AllReadyE.consL rfl (fun K hK => ?_) AllReadyE.nil
                      rw [if_pos (by rfl)]
                      refine opwp_of_list rfl (fun Q' hQ' => ?_)
                      refine wpList_append_ops rfl _ _ (by rfl) HO1.out (by rfl) HS2.out (by rfl) ?_ (by have := HLL.out; simp; omega)
                      intro A4 n4 cap4 w4 ho4 hn4 hm4 hb4
                      refine hQ' _ _ ?_
                      have hmE : From n0 _ w4 := From.of hm4 HB1.out
                      have HO4 := Lib.hid ho4
                      have HFnew := Lib.hid (HF.out.trans hmE); clear HF; have HF := HFnew; clear HFnew
                      clear ho4 hm4 hb4 hn4
                      refine hK.out _ _ (by first | exact hmE | exact Mod.refl _ _ | exact (Mod.refl _ _).alloc _) ?_
                      clear hK
                      (try simp only [Act.put, List.setIfInBounds_toArray, List.set_cons_zero, List.set_cons_succ])
                      refine wpAnyE_takeL (preFrom n0) 5 (v := ?_) rfl (by kernel_rfl) (by kernel_rfl) (by kernel_rfl) (fun _ _ _ h => h) (Or.inl ⟨by rfl, ?_⟩) ?_
                      rotate_left; (intro W hW; (try dsimp only at hW); go_simp; try with_reducible rfl)
                      (try simp only [Act.put, List.setIfInBounds_toArray, List.set_cons_zero, List.set_cons_succ])
                      refine wpAnyE_done (by kernel_rfl) ?_ _
                      go_wp2
                      go_meet
                      case rel => exact ⟨A4, n4, cap4, rfl, HO4, Lib.hid (by have h := HF.out; rw [← HN0.out] at h; exact h.new)⟩
                    refine AllReadyE.consL rfl (fun K hK => ?_) ?_
                    · rw [if_pos (by rfl)]
                      refine opwp_of_list rfl (fun Q' hQ' => ?_)
                      refine wpList_buildSlice_op (o := o6) _ (by rfl) rfl (by rfl) ?_
                      intro g2 w2 hs2 hm2 hg2 hl2
                      refine hQ' _ _ ?_
                      have hmE : From n0 _ w2 := From.of hm2 (by simp)
                      have HS2 := Lib.hid hs2
                      (try have HO1new := Lib.hid (HO1.out.mod hm2 (by simp)); clear HO1; have HO1 := HO1new; clear HO1new)
                      have HFnew := Lib.hid (HF.out.trans hmE); clear HF; have HF := HFnew; clear HFnew
                      clear hs2 hm2 hg2 hl2
                      refine hK.out _ _ (by first | exact hmE | exact Mod.refl _ _ | exact (Mod.refl _ _).alloc _) ?_
                      clear hK
                      (try simp only [Act.put, List.setIfInBounds_toArray, List.set_cons_zero, List.set_cons_succ])
                      refine wpAnyE_ready (rs := [1]) (by kernel_rfl) (by simp) ?_
                      refine AllReadyE.consL rfl (fun K hK => ?_) AllReadyE.nil
                      rw [if_pos (by rfl)]
                      refine opwp_of_list rfl (fun Q' hQ' => ?_)
                      refine wpList_append_ops rfl _ _ (by rfl) (OwnO.nil _) (by rfl) (HOS.out _ HF.out) (by rfl) ?_ (by have := HLL.out; simp; omega)
                      intro A1 n1 cap1 w1 ho1 hn1 hm1 hb1
                      refine hQ' _ _ ?_
                      have hmE : From n0 _ w1 := From.of hm1 (by simp [blks, Value.ownBlock])
                      have HO1 := Lib.hid ho1
                      have HB1 : Hid (∀ b ∈ blks (.slice A1 n1 cap1), n0 ≤ b) := Lib.hid (fun b hb => by rcases hb1.out b hb with h1 | h1; (simp [blks, Value.ownBlock] at h1); have := HF.out.size; have := HN0.out; omega)
                      (try have HS2new := Lib.hid (HS2.out.mod hm1 (by simp [blks, Value.ownBlock])); clear HS2; have HS2 := HS2new; clear HS2new)
                      have HFnew := Lib.hid (HF.out.trans hmE); clear HF; have HF := HFnew; clear HFnew
                      clear ho1 hm1 hb1 hn1
                      refine hK.out _ _ (by first | exact hmE | exact Mod.refl _ _ | exact (Mod.refl _ _).alloc _) ?_
                      clear hK
                      (try simp only [Act.put, List.setIfInBounds_toArray, List.set_cons_zero, List.set_cons_succ])
                      refine wpAnyE_ready (rs := [4]) (by kernel_rfl) (by simp) ?_
                      refine AllReadyE.consL rfl (fun K hK => ?_) AllReadyE.nil
                      rw [if_pos (by rfl)]
                      refine opwp_of_list rfl (fun Q' hQ' => ?_)
                      refine wpList_append_ops rfl _ _ (by rfl) HO1.out (by rfl) HS2.out (by rfl) ?_ (by have := HLL.out; simp; omega)
                      intro A4 n4 cap4 w4 ho4 hn4 hm4 hb4
                      refine hQ' _ _ ?_
                      have hmE : From n0 _ w4 := From.of hm4 HB1.out
                      have HO4 := Lib.hid ho4
                      have HFnew := Lib.hid (HF.out.trans hmE); clear HF; have HF := HFnew; clear HFnew
                      clear ho4 hm4 hb4 hn4
                      refine hK.out _ _ (by first | exact hmE | exact Mod.refl _ _ | exact (Mod.refl _ _).alloc _) ?_
                      clear hK
                      (try simp only [Act.put, List.setIfInBounds_toArray, List.set_cons_zero, List.set_cons_succ])
                      refine wpAnyE_takeL (preFrom n0) 5 (v := ?_) rfl (by kernel_rfl) (by kernel_rfl) (by kernel_rfl) (fun _ _ _ h => h) (Or.inl ⟨by rfl, ?_⟩) ?_
                      rotate_left; (intro W hW; (try dsimp only at hW); go_simp; try with_reducible rfl)
                      (try simp only [Act.put, List.setIfInBounds_toArray, List.set_cons_zero, List.set_cons_succ])
                      refine wpAnyE_done (by kernel_rfl) ?_ _
                      go_wp2
                      go_meet
                      case rel => exact ⟨A4, n4, cap4, rfl, HO4, Lib.hid (by have h := HF.out; rw [← HN0.out] at h; exact h.new)⟩
                    exact AllReadyE.nil
                  case rest =>
                    obtain ⟨A7, n7, c7, rfl, HO7, HM7⟩ := hcut
                    have HOTnew := Lib.hid (HOT.out.mod HM7.out); clear HOT; have HOT := HOTnew; clear HOTnew
                    obtain ⟨g7, hs7, hg7⟩ := HO7.out.os
                    have e1 : (l ++ [o6]).take l.length = l := by simp
                    have e2 : (l ++ [o6])[l.length]'(by simp) = o6 := by simp
                    have ham := refAtMay_any (l ++ [o6]) l.length (by simp) g7 _ wc hs7
                    rw [e1, e2] at ham
                    have HAM := Lib.hid ham
                    clear e1 e2 ham hs7 hg7 HO7 HM7
                    go_upto_region 27 with (go_at_call 57; refine (HAM.out).mono ?_; rintro e' w8 ⟨rfl, hm8⟩)
                    have HOTnew := Lib.hid (HOT.out.mod hm8); clear HOT; have HOT := HOTnew; clear HOTnew
                    clear hm8 HAM
                    generalize w8 = wr at *
                    by_cases hmay : atMay l o6 = true
                    · have HR : Hid (rdOp xs m l = .ok o6 p6) := Lib.hid (by rw [HR2.out, if_pos hmay])
                      rw [hmay]
                      clear HR2
                      go_wp2_with fail
                      have hlo := HOT.out.loado; have hle := HOT.out.loade; have hw0 : Mod [zO, zE] wr (World.drew wr) := (Mod.refl _ wr).drew; have HZO := Lib.hid (Blk.mod HOT.out.2.2.2.1 (Mod.refl [] wr).drew (by simp)); have HZE := Lib.hid HOT.out.2.2.2.2.1; have HNZ : Hid (zE ∉ [zO] ∧ zO ∉ [zE]) := Lib.hid HOT.out.nz
                      refine wp_regionE (Mod [zO, zE]) (by kernel_rfl) ?_
                      simp only [List.size_toArray, List.length_cons, List.length_nil, Nat.zero_add, Nat.reduceAdd]
                      refine wpAnyE_takeL (preMod _) 0 (v := ?_) rfl (by kernel_rfl) (by kernel_rfl) (by kernel_rfl) (fun _ _ _ h => h) (Or.inl ⟨by rfl, ?_⟩) ?_
                      rotate_left; (intro W hW; (try dsimp only at hW); refine (run_load_cells rtOp (.tmp 6) (by rfl) (by rfl) (GOp.cells_length _) (hlo W (hw0.trans hW))).trans ?_; try with_reducible rfl)
                      (try simp only [Act.put, List.setIfInBounds_toArray, List.set_cons_zero, List.set_cons_succ])
                      refine wpAnyE_takeL (preMod _) 1 (v := ?_) rfl (by kernel_rfl) (by kernel_rfl) (by kernel_rfl) (fun _ _ _ h => h) (Or.inl ⟨by rfl, ?_⟩) ?_
                      rotate_left; (intro W hW; (try dsimp only at hW); refine (run_load_cells rtErr (.tmp 9) (by rfl) (by rfl) rfl (hle W (hw0.trans hW))).trans ?_; try with_reducible rfl)
                      (try simp only [Act.put, List.setIfInBounds_toArray, List.set_cons_zero, List.set_cons_succ])
                      refine wpAnyE_ready (rs := [2]) (by kernel_rfl) (by simp) ?_
                      refine AllReadyE.consL rfl (fun K hK => ?_) AllReadyE.nil
                      rw [if_pos (by rfl)]
                      refine opwp_store_blk rtOp _ _ (by rfl) (by rfl) (by rfl) HZO.out (GOp.cells_length _) (by simp [GOp.cells_length]) (GOp.one _) ?_
                      intro w9 hb9 hm9
                      have hmE : Mod [zO, zE] (World.drew wr) w9 := hm9.mono (by simp)
                      have HB9 := Lib.hid hb9
                      have HM9 := Lib.hid ((Mod.refl [zO] wr).drew.trans hm9)
                      have HZE9 := Lib.hid (HZE.out.mod HM9.out HNZ.out.1)
                      clear hb9 hm9
                      refine hK.out _ _ (by first | exact hmE | exact Mod.refl _ _ | exact (Mod.refl _ _).alloc _) ?_
                      clear hK
                      (try simp only [Act.put, List.setIfInBounds_toArray, List.set_cons_zero, List.set_cons_succ])
                      refine wpAnyE_ready (rs := [3]) (by kernel_rfl) (by simp) ?_
                      refine AllReadyE.consL rfl (fun K hK => ?_) AllReadyE.nil
                      rw [if_pos (by rfl)]
                      refine opwp_store_blk rtErr _ _ (by rfl) (by rfl) (by rfl) HZE9.out rfl rfl (by simp [Value.oneCell']) ?_
                      intro w10 hb10 hm10
                      have hmE : Mod [zO, zE] w9 w10 := hm10.mono (by simp)
                      have HB10 := Lib.hid (HB9.out.mod hm10 HNZ.out.2)
                      have HX10 := Lib.hid hb10
                      have HM10 := Lib.hid ((HM9.out.mono (by simp)).trans (hm10.mono (by simp) : Mod [zO, zE] w9 w10))
                      clear hb10 hm10
                      refine hK.out _ _ (by first | exact hmE | exact Mod.refl _ _ | exact (Mod.refl _ _).alloc _) ?_
                      clear hK
                      (try simp only [Act.put, List.setIfInBounds_toArray, List.set_cons_zero, List.set_cons_succ])
                      refine wpAnyE_done (by kernel_rfl) ?_ _
                      go_wp2
                      refine bodyPost_ret (results_row2 rtOp rtErr rfl rfl HB10.out (by simp [GOp.cells_length]) rfl HX10.out rfl) rfl ?_
                      rw [HR.out]
                      exact OT.fin HOT.out HM10.out rfl rfl (fun o' m h => by cases h; rfl)
                    · have HRB : Hid (rdOp xs m l = .bad 42 p4) := Lib.hid (by rw [HR2.out, if_neg hmay])
                      clear HR2
                      rw [Bool.not_eq_true] at hmay
                      rw [hmay]
                      have HW := Lib.hid (refWrong0_any 42 p4 (by decide) p g p6 xs wr HP4.out HOT.out.1)
                      obtain ⟨c0, c1, c2, c3, c36, e0, e1, fq, fe0, fe1, pp, hqe, heq, hql, hel⟩ := HOT.out.open_
                      go_wp2_with fail
                      refine HW.out.mono ?_
                      rintro e' w7 ⟨rfl, hI7, hm7⟩
                      have HOTnew := Lib.hid (HOT.out.read hI7 hm7); clear HOT; have HOT := HOTnew; clear HOTnew
                      clear c0 c1 c2 c3 c36 e0 e1 fq fe0 fe1 pp hqe heq hql hel
                      clear hI7 hm7 HW
                      unfold errV
                      obtain ⟨c0, c1, c2, c3, c36, e0, e1, fq, fe0, fe1, pp, hqe, heq, hql, hel⟩ := HOT.out.open_
                      have HOTnew := Lib.hid (HOT.out.setE 42 p4); clear HOT; have HOT := HOTnew; clear HOTnew
                      go_upto_region 29 with fail
                      clear c0 c1 c2 c3 c36 e0 e1 fq fe0 fe1 pp hqe heq hql hel
                      generalize (w7.setCell ⟨e, 0, none⟩ (.int .i64 42)).setCell ⟨e, 1, none⟩ (.int .i64 p4) = wr at *
                      have hlo := HOT.out.loado; have hle := HOT.out.loade; have hw0 : Mod [zO, zE] wr (World.drew wr) := (Mod.refl _ wr).drew; have HZO := Lib.hid (Blk.mod HOT.out.2.2.2.1 (Mod.refl [] wr).drew (by simp)); have HZE := Lib.hid HOT.out.2.2.2.2.1; have HNZ : Hid (zE ∉ [zO] ∧ zO ∉ [zE]) := Lib.hid HOT.out.nz
                      refine wp_regionE (Mod [zO, zE]) (by kernel_rfl) ?_
                      simp only [List.size_toArray, List.length_cons, List.length_nil, Nat.zero_add, Nat.reduceAdd]
                      refine wpAnyE_takeL (preMod _) 0 (v := ?_) rfl (by kernel_rfl) (by kernel_rfl) (by kernel_rfl) (fun _ _ _ h => h) (Or.inl ⟨by rfl, ?_⟩) ?_
                      rotate_left; (intro W hW; (try dsimp only at hW); refine (run_load_cells rtOp (.tmp 6) (by rfl) (by rfl) (GOp.cells_length _) (hlo W (hw0.trans hW))).trans ?_; try with_reducible rfl)
                      (try simp only [Act.put, List.setIfInBounds_toArray, List.set_cons_zero, List.set_cons_succ])
                      refine wpAnyE_takeL (preMod _) 1 (v := ?_) rfl (by kernel_rfl) (by kernel_rfl) (by kernel_rfl) (fun _ _ _ h => h) (Or.inl ⟨by rfl, ?_⟩) ?_
                      rotate_left; (intro W hW; (try dsimp only at hW); refine (run_load_cells rtErr (.tmp 9) (by rfl) (by rfl) rfl (hle W (hw0.trans hW))).trans ?_; try with_reducible rfl)
                      (try simp only [Act.put, List.setIfInBounds_toArray, List.set_cons_zero, List.set_cons_succ])
                      refine wpAnyE_ready (rs := [2]) (by kernel_rfl) (by simp) ?_
                      refine AllReadyE.consL rfl (fun K hK => ?_) AllReadyE.nil
                      rw [if_pos (by rfl)]
                      refine opwp_store_blk rtOp _ _ (by rfl) (by rfl) (by rfl) HZO.out (GOp.cells_length _) (by simp [GOp.cells_length]) (GOp.one _) ?_
                      intro w9 hb9 hm9
                      have hmE : Mod [zO, zE] (World.drew wr) w9 := hm9.mono (by simp)
                      have HB9 := Lib.hid hb9
                      have HM9 := Lib.hid ((Mod.refl [zO] wr).drew.trans hm9)
                      have HZE9 := Lib.hid (HZE.out.mod HM9.out HNZ.out.1)
                      clear hb9 hm9
                      refine hK.out _ _ (by first | exact hmE | exact Mod.refl _ _ | exact (Mod.refl _ _).alloc _) ?_
                      clear hK
                      (try simp only [Act.put, List.setIfInBounds_toArray, List.set_cons_zero, List.set_cons_succ])
                      refine wpAnyE_ready (rs := [3]) (by kernel_rfl) (by simp) ?_
                      refine AllReadyE.consL rfl (fun K hK => ?_) AllReadyE.nil
                      rw [if_pos (by rfl)]
                      refine opwp_store_blk rtErr _ _ (by rfl) (by rfl) (by rfl) HZE9.out rfl rfl (by simp [Value.oneCell']) ?_
                      intro w10 hb10 hm10
                      have hmE : Mod [zO, zE] w9 w10 := hm10.mono (by simp)
                      have HB10 := Lib.hid (HB9.out.mod hm10 HNZ.out.2)
                      have HX10 := Lib.hid hb10
                      have HM10 := Lib.hid ((HM9.out.mono (by simp)).trans (hm10.mono (by simp) : Mod [zO, zE] w9 w10))
                      clear hb10 hm10
                      refine hK.out _ _ (by first | exact hmE | exact Mod.refl _ _ | exact (Mod.refl _ _).alloc _) ?_
                      clear hK
                      (try simp only [Act.put, List.setIfInBounds_toArray, List.set_cons_zero, List.set_cons_succ])
                      refine wpAnyE_done (by kernel_rfl) ?_ _
                      go_wp2
                      refine bodyPost_ret (results_row2 rtOp rtErr rfl rfl HB10.out (by simp [GOp.cells_length]) rfl HX10.out rfl) rfl ?_
                      rw [HRB.out]
                      exact OT.fin HOT.out HM10.out rfl rfl (fun _ _ h => by cases h)
    · have HRB : Hid (rdOp xs m l = .bad 40 m) := Lib.hid (by rw [HK.out, HKD.out]; simp [Rd.bind, hk])
      clear HK HKD
      have hk2 : k.toNat < 1 ∨ 9 < k.toNat := by simp [known] at hk; omega
      have HW := Lib.hid (refWrong0_any 40 m (by decide) p g p1 xs wr HI.out.2.1 HOT.out.1)
      rcases hk2 with hk2 | hk2
      · have hk3 : ((k.toNat : Int) < 1) := by omega
        go_wp2_with fail
        refine HW.out.mono ?_
        rintro e' w7 ⟨rfl, hI7, hm7⟩
        have HOTnew := Lib.hid (HOT.out.read hI7 hm7); clear HOT; have HOT := HOTnew; clear HOTnew
        clear c0 c1 c2 c3 c36 e0 e1 fq fe0 fe1 pp hqe heq hql hel
        clear hI7 hm7 HW
        unfold errV
        obtain ⟨c0, c1, c2, c3, c36, e0, e1, fq, fe0, fe1, pp, hqe, heq, hql, hel⟩ := HOT.out.open_
        have HOTnew := Lib.hid (HOT.out.setE 40 m); clear HOT; have HOT := HOTnew; clear HOTnew
        go_upto_region 6 with fail
        clear c0 c1 c2 c3 c36 e0 e1 fq fe0 fe1 pp hqe heq hql hel
        generalize (w7.setCell ⟨e, 0, none⟩ (.int .i64 40)).setCell ⟨e, 1, none⟩ (.int .i64 m) = wr at *
        obtain ⟨c0, c1, c2, c3, c36, e0, e1, fq, fe0, fe1, pp, hqe, heq, hql, hel⟩ := HOT.out.open_
        go_wp2_with fail
        have hlo := HOT.out.loado; have hle := HOT.out.loade; have hw0 : Mod [zO, zE] wr (World.drew wr) := (Mod.refl _ wr).drew; have HZO := Lib.hid (Blk.mod HOT.out.2.2.2.1 (Mod.refl [] wr).drew (by simp)); have HZE := Lib.hid HOT.out.2.2.2.2.1; have HNZ : Hid (zE ∉ [zO] ∧ zO ∉ [zE]) := Lib.hid HOT.out.nz
        refine wp_regionE (Mod [zO, zE]) (by kernel_rfl) ?_
        simp only [List.size_toArray, List.length_cons, List.length_nil, Nat.zero_add, Nat.reduceAdd]
        refine wpAnyE_takeL (preMod _) 0 (v := ?_) rfl (by kernel_rfl) (by kernel_rfl) (by kernel_rfl) (fun _ _ _ h => h) (Or.inl ⟨by rfl, ?_⟩) ?_
        rotate_left; (intro W hW; (try dsimp only at hW); refine (run_load_cells rtOp (.tmp 6) (by rfl) (by rfl) (GOp.cells_length _) (hlo W (hw0.trans hW))).trans ?_; try with_reducible rfl)
        (try simp only [Act.put, List.setIfInBounds_toArray, List.set_cons_zero, List.set_cons_succ])
        refine wpAnyE_takeL (preMod _) 1 (v := ?_) rfl (by kernel_rfl) (by kernel_rfl) (by kernel_rfl) (fun _ _ _ h => h) (Or.inl ⟨by rfl, ?_⟩) ?_
        rotate_left; (intro W hW; (try dsimp only at hW); refine (run_load_cells rtErr (.tmp 9) (by rfl) (by rfl) rfl (hle W (hw0.trans hW))).trans ?_; try with_reducible rfl)
        (try simp only [Act.put, List.setIfInBounds_toArray, List.set_cons_zero, List.set_cons_succ])
        refine wpAnyE_ready (rs := [2]) (by kernel_rfl) (by simp) ?_
        refine AllReadyE.consL rfl (fun K hK => ?_) AllReadyE.nil
        rw [if_pos (by rfl)]
        refine opwp_store_blk rtOp _ _ (by rfl) (by rfl) (by rfl) HZO.out (GOp.cells_length _) (by simp [GOp.cells_length]) (GOp.one _) ?_
        intro w9 hb9 hm9
        have hmE : Mod [zO, zE] (World.drew wr) w9 := hm9.mono (by simp)
        have HB9 := Lib.hid hb9
        have HM9 := Lib.hid ((Mod.refl [zO] wr).drew.trans hm9)
        have HZE9 := Lib.hid (HZE.out.mod HM9.out HNZ.out.1)
        clear hb9 hm9
        refine hK.out _ _ (by first | exact hmE | exact Mod.refl _ _ | exact (Mod.refl _ _).alloc _) ?_
        clear hK
        (try simp only [Act.put, List.setIfInBounds_toArray, List.set_cons_zero, List.set_cons_succ])
        refine wpAnyE_ready (rs := [3]) (by kernel_rfl) (by simp) ?_
        refine AllReadyE.consL rfl (fun K hK => ?_) AllReadyE.nil
        rw [if_pos (by rfl)]
        refine opwp_store_blk rtErr _ _ (by rfl) (by rfl) (by rfl) HZE9.out rfl rfl (by simp [Value.oneCell']) ?_
        intro w10 hb10 hm10
        have hmE : Mod [zO, zE] w9 w10 := hm10.mono (by simp)
        have HB10 := Lib.hid (HB9.out.mod hm10 HNZ.out.2)
        have HX10 := Lib.hid hb10
        have HM10 := Lib.hid ((HM9.out.mono (by simp)).trans (hm10.mono (by simp) : Mod [zO, zE] w9 w10))
        clear hb10 hm10
        refine hK.out _ _ (by first | exact hmE | exact Mod.refl _ _ | exact (Mod.refl _ _).alloc _) ?_
        clear hK
        (try simp only [Act.put, List.setIfInBounds_toArray, List.set_cons_zero, List.set_cons_succ])
        refine wpAnyE_done (by kernel_rfl) ?_ _
        go_wp2
        refine bodyPost_ret (results_row2 rtOp rtErr rfl rfl HB10.out (by simp [GOp.cells_length]) rfl HX10.out rfl) rfl ?_
        rw [HRB.out]
        exact OT.fin HOT.out HM10.out rfl rfl (fun _ _ h => by cases h)
      · have hk3 : ¬ ((k.toNat : Int) < 1) := by omega
        have hk4 : ((9 : Int) < (k.toNat : Int)) := by omega
        go_wp2_with fail
        refine HW.out.mono ?_
        rintro e' w7 ⟨rfl, hI7, hm7⟩
        have HOTnew := Lib.hid (HOT.out.read hI7 hm7); clear HOT; have HOT := HOTnew; clear HOTnew
        clear c0 c1 c2 c3 c36 e0 e1 fq fe0 fe1 pp hqe heq hql hel
        clear hI7 hm7 HW
        unfold errV
        obtain ⟨c0, c1, c2, c3, c36, e0, e1, fq, fe0, fe1, pp, hqe, heq, hql, hel⟩ := HOT.out.open_
        have HOTnew := Lib.hid (HOT.out.setE 40 m); clear HOT; have HOT := HOTnew; clear HOTnew
        go_upto_region 6 with fail
        clear c0 c1 c2 c3 c36 e0 e1 fq fe0 fe1 pp hqe heq hql hel
        generalize (w7.setCell ⟨e, 0, none⟩ (.int .i64 40)).setCell ⟨e, 1, none⟩ (.int .i64 m) = wr at *
        obtain ⟨c0, c1, c2, c3, c36, e0, e1, fq, fe0, fe1, pp, hqe, heq, hql, hel⟩ := HOT.out.open_
        go_wp2_with fail
        have hlo := HOT.out.loado; have hle := HOT.out.loade; have hw0 : Mod [zO, zE] wr (World.drew wr) := (Mod.refl _ wr).drew; have HZO := Lib.hid (Blk.mod HOT.out.2.2.2.1 (Mod.refl [] wr).drew (by simp)); have HZE := Lib.hid HOT.out.2.2.2.2.1; have HNZ : Hid (zE ∉ [zO] ∧ zO ∉ [zE]) := Lib.hid HOT.out.nz
        refine wp_regionE (Mod [zO, zE]) (by kernel_rfl) ?_
        simp only [List.size_toArray, List.length_cons, List.length_nil, Nat.zero_add, Nat.reduceAdd]
        refine wpAnyE_takeL (preMod _) 0 (v := ?_) rfl (by kernel_rfl) (by kernel_rfl) (by kernel_rfl) (fun _ _ _ h => h) (Or.inl ⟨by rfl, ?_⟩) ?_
        rotate_left; (intro W hW; (try dsimp only at hW); refine (run_load_cells rtOp (.tmp 6) (by rfl) (by rfl) (GOp.cells_length _) (hlo W (hw0.trans hW))).trans ?_; try with_reducible rfl)
        (try simp only [Act.put, List.setIfInBounds_toArray, List.set_cons_zero, List.set_cons_succ])
        refine wpAnyE_takeL (preMod _) 1 (v := ?_) rfl (by kernel_rfl) (by kernel_rfl) (by kernel_rfl) (fun _ _ _ h => h) (Or.inl ⟨by rfl, ?_⟩) ?_
        rotate_left; (intro W hW; (try dsimp only at hW); refine (run_load_cells rtErr (.tmp 9) (by rfl) (by rfl) rfl (hle W (hw0.trans hW))).trans ?_; try with_reducible rfl)
        (try simp only [Act.put, List.setIfInBounds_toArray, List.set_cons_zero, List.set_cons_succ])
        refine wpAnyE_ready (rs := [2]) (by kernel_rfl) (by simp) ?_
        refine AllReadyE.consL rfl (fun K hK => ?_) AllReadyE.nil
        rw [if_pos (by rfl)]
        refine opwp_store_blk rtOp _ _ (by rfl) (by rfl) (by rfl) HZO.out (GOp.cells_length _) (by simp [GOp.cells_length]) (GOp.one _) ?_
        intro w9 hb9 hm9
        have hmE : Mod [zO, zE] (World.drew wr) w9 := hm9.mono (by simp)
        have HB9 := Lib.hid hb9
        have HM9 := Lib.hid ((Mod.refl [zO] wr).drew.trans hm9)
        have HZE9 := Lib.hid (HZE.out.mod HM9.out HNZ.out.1)
        clear hb9 hm9
        refine hK.out _ _ (by first | exact hmE | exact Mod.refl _ _ | exact (Mod.refl _ _).alloc _) ?_
        clear hK
        (try simp only [Act.put, List.setIfInBounds_toArray, List.set_cons_zero, List.set_cons_succ])
        refine wpAnyE_ready (rs := [3]) (by kernel_rfl) (by simp) ?_
        refine AllReadyE.consL rfl (fun K hK => ?_) AllReadyE.nil
        rw [if_pos (by rfl)]
        refine opwp_store_blk rtErr _ _ (by rfl) (by rfl) (by rfl) HZE9.out rfl rfl (by simp [Value.oneCell']) ?_
        intro w10 hb10 hm10
        have hmE : Mod [zO, zE] w9 w10 := hm10.mono (by simp)
        have HB10 := Lib.hid (HB9.out.mod hm10 HNZ.out.2)
        have HX10 := Lib.hid hb10
        have HM10 := Lib.hid ((HM9.out.mono (by simp)).trans (hm10.mono (by simp) : Mod [zO, zE] w9 w10))
        clear hb10 hm10
        refine hK.out _ _ (by first | exact hmE | exact Mod.refl _ _ | exact (Mod.refl _ _).alloc _) ?_
        clear hK
        (try simp only [Act.put, List.setIfInBounds_toArray, List.set_cons_zero, List.set_cons_succ])
        refine wpAnyE_done (by kernel_rfl) ?_ _
        go_wp2
        refine bodyPost_ret (results_row2 rtOp rtErr rfl rfl HB10.out (by simp [GOp.cells_length]) rfl HX10.out rfl) rfl ?_
        rw [HRB.out]
        exact OT.fin HOT.out HM10.out rfl rfl (fun _ _ h => by cases h)
end Go.Proofs.Ytdiplliemdogfaa
