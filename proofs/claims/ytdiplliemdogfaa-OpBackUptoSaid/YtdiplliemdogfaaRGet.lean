import Derived.Test.YtdiplliemdogfaaROne
set_option linter.unusedVariables false
set_option linter.unusedSimpArgs false
set_option maxRecDepth 20000
set_option maxHeartbeats 1600000
namespace Go.Proofs.Ytdiplliemdogfaa
open Go.RowKit

/-- the state while operations are read by the reference -/
def GT (w : World) (p g : Nat) (xs : Bytes) (z e : Nat) (s : Rd Unit) (v : Value) (l : List GOp) (y a : Int) (wr : World) : Prop :=
  RIn wr p g xs s ∧ Blk wr e 57 #[.int .i64 y, .int .i64 a] ∧ Blk wr z 57 #[.int .i64 0, .int .i64 0] ∧ OwnO wr v l ∧ Mod [p] w wr ∧
  (p < w.heap.size ∧ w.heap.size ≤ z ∧ z < e ∧ (0 < xs.length → g < w.heap.size) ∧ ∀ b ∈ blks v, e < b)
section
variable {w wr w' : World} {p g : Nat} {xs : Bytes} {z e : Nat} {s : Rd Unit} {v : Value} {l : List GOp} {y a : Int}
theorem GT.read {s' : Rd Unit} (h : GT w p g xs z e s v l y a wr) (hI : RIn w' p g xs s') (hm : Mod [p] wr w') : GT w p g xs z e s' v l y a w' := by
  obtain ⟨k1, k2, k3, k4, k5, j1, j2, j3, j4, j5⟩ := h
  exact ⟨hI, k2.mod hm (by simp; omega), k3.mod hm (by simp; omega), k4.mod hm (fun b hb => by have := j5 b hb; simp; omega), k5.trans hm, j1, j2, j3, j4, j5⟩
theorem GT.mod (h : GT w p g xs z e s v l y a wr) (hm : Mod [] wr w') : GT w p g xs z e s v l y a w' :=
  h.read (h.1.mod hm (by simp) (by simp)) (hm.mono (by simp))
theorem GT.setE (h : GT w p g xs z e s v l y a wr) (y' a' : Int) : GT w p g xs z e s v l y' a' ((wr.setCell ⟨e, 0, none⟩ (.int .i64 y')).setCell ⟨e, 1, none⟩ (.int .i64 a')) := by
  obtain ⟨k1, k2, k3, k4, k5, j1, j2, j3, j4, j5⟩ := h
  have hm : Mod [e] wr ((wr.setCell ⟨e, 0, none⟩ (.int .i64 y')).setCell ⟨e, 1, none⟩ (.int .i64 a')) := ((Mod.refl [e] wr).setCell _ (by simp) _).setCell _ (by simp) _
  exact ⟨k1.mod hm (by simp; omega) (fun h0 => by have := j4 h0; simp; omega), (k2.set_ 0 _).set_ 1 _, k3.mod hm (by simp; omega), k4.mod hm (fun b hb => by have := j5 b hb; simp; omega), k5.then hm (by simp; omega), j1, j2, j3, j4, j5⟩
theorem GT.own {v' : Value} {l' : List GOp} (h : GT w p g xs z e s v l y a wr) (ho : OwnO w' v' l') (hm : Mod (blks v) wr w') (hb : ∀ b ∈ blks v', b ∈ blks v ∨ wr.heap.size ≤ b) : GT w p g xs z e s v' l' y a w' := by
  obtain ⟨k1, k2, k3, k4, k5, j1, j2, j3, j4, j5⟩ := h
  have hp : p < w.heap.size := j1
  have hel := k2.lt
  exact ⟨k1.mod hm (fun h0 => by have := j5 _ h0; omega) (fun h0 h1 => by have := j5 _ h1; have := j4 h0; omega), k2.mod hm (fun h0 => by have := j5 _ h0; omega), k3.mod hm (fun h0 => by have := j5 _ h0; omega), ho, k5.then hm (fun b h0 => .inr (by have := j5 _ h0; omega)), j1, j2, j3, j4, fun b h0 => by
    rcases hb b h0 with h1 | h1
    · exact j5 b h1
    · omega⟩
theorem GT.fresh (h : GT w p g xs z e s v l y a wr) : ∀ b ∈ blks v, w.heap.size ≤ b := by
  obtain ⟨k1, k2, k3, k4, k5, j1, j2, j3, j4, j5⟩ := h
  intro b hb
  have := j5 b hb
  omega
theorem GT.open_ (h : GT w p g xs z e s v l y a wr) : wr.cell? ⟨e, 0, none⟩ = some (.int .i64 y) ∧ wr.cell? ⟨e, 1, none⟩ = some (.int .i64 a) ∧ wr.frozen? ⟨e, 0, none⟩ = false ∧ wr.frozen? ⟨e, 1, none⟩ = false ∧ wr.cell? ⟨z, 0, none⟩ = some (.int .i64 0) ∧ wr.cell? ⟨z, 1, none⟩ = some (.int .i64 0) ∧ wr.frozen? ⟨z, 0, none⟩ = false ∧ wr.frozen? ⟨z, 1, none⟩ = false ∧ e ≠ z ∧ z ≠ e ∧ e < wr.heap.size ∧ z < wr.heap.size := by
  obtain ⟨k1, k2, k3, k4, k5, j1, j2, j3, j4, j5⟩ := h
  exact ⟨k2.cell 0, k2.cell 1, k2.frozen 0, k2.frozen 1, k3.cell 0, k3.cell 1, k3.frozen 0, k3.frozen 1, by omega, by omega, k2.lt, k3.lt⟩
/-- the error laid into the result -/
theorem GT.setZ (h : GT w p g xs z e s v l y a wr) (y' a' : Int) : let w' := (((wr.setCell ⟨z, 0, none⟩ (.int .i64 y')).setCell ⟨z, 1, none⟩ (.int .i64 a')))
    RIn w'.drew p g xs s ∧ Blk w'.drew z 57 #[.int .i64 y', .int .i64 a'] ∧ OwnO w'.drew v l ∧ Mod [p] w w'.drew := by
  obtain ⟨k1, k2, k3, k4, k5, j1, j2, j3, j4, j5⟩ := h
  have hm : Mod [z] wr ((wr.setCell ⟨z, 0, none⟩ (.int .i64 y')).setCell ⟨z, 1, none⟩ (.int .i64 a')).drew := (((Mod.refl [z] wr).setCell _ (by simp) _).setCell _ (by simp) _).drew
  exact ⟨k1.mod hm (by simp; omega) (fun h0 => by have := j4 h0; simp; omega), Blk.drew ((k3.set_ 0 _).set_ 1 _), k4.mod hm (fun b hb => by have := j5 b hb; simp; omega), k5.then hm (by simp; omega)⟩
end
theorem OwnO.empty (w : World) : OwnO (w.alloc (.cells #[] 33)) (.slice (some ⟨w.heap.size, 0, none⟩) 0 0) [] :=
  ⟨rfl, .inr ⟨w.heap.size, 0, #[], rfl, Nat.zero_le _, heap_alloc_new w _, Nat.le_refl _, by decide, rfl, rfl⟩⟩
def RGetP (w : World) (p g : Nat) (xs : Bytes) (r : Rd (List GOp)) (e' : Ending) (w' : World) : Prop :=
  match r with
  | .ok l pos => ∃ A n cap, e' = .returned (.tuple #[.slice A n cap, errV 0 0]) ∧ OwnO w' (.slice A n cap) l ∧ RIn w' p g xs (.ok () pos) ∧ Mod [p] w w' ∧ (∀ b ∈ blks (.slice A n cap), w.heap.size ≤ b)
  | .bad y a => e' = .returned (.tuple #[.slice none 0 0, errV y a]) ∧ RIn w' p g xs (.bad y a) ∧ Mod [p] w w'
/-- how far the list is read -/
def GS (xs : Bytes) (r : Rd (List GOp)) (n i : Nat) (l : List GOp) (y a : Nat) : Rd Unit → Prop
  | .ok _ pos => y = 0 ∧ a = 0 ∧ l.length = i ∧ rdList xs (n - i) pos l = r
  | .bad y' a' => y = y' ∧ a = a' ∧ r = .bad y' a'
theorem refGet_any (p g m : Nat) (xs : Bytes) (w : World) (hI : RIn w p g xs (.ok () m)) (hz : xs.length ≤ 140737488355328) :
    Calls Try.prog 30 #[ptr p] w (RGetP w p g xs (rdOps xs m)) := by
  have hpw := hI.lt
  have hgw := hI.g_lt
  have HI := Lib.hid hI; clear hI
  have HZ := Lib.hid hz; clear hz
  obtain ⟨w1, hw1⟩ : ∃ w1, w.alloc (.cells #[.int .i64 0, .int .i64 0] 57) = w1 := ⟨_, rfl⟩
  obtain ⟨z, hzz⟩ : ∃ z, w.heap.size = z := ⟨_, rfl⟩
  have HM1 : Hid (Mod [] w w1) := Lib.hid (hw1 ▸ (Mod.refl [] w).alloc _)
  have HZ1 : Hid (Blk w1 z 57 #[.int .i64 0, .int .i64 0]) := Lib.hid (by rw [← hw1, ← hzz]; exact Blk.new _ _ _)
  have HI1 := Lib.hid (HI.out.mod HM1.out (by simp) (by simp))
  have hnum : Calls Try.prog 52 #[ptr p, .int .u64 1024] w1 (RdQ w1 p g xs (fun x => .int .u64 (x : Nat)) (.int .u64 0) (rdNum xs m 1024)) := refNumber_any' 1024 p g (by omega) xs _ w1 HI1.out
  have HN := Lib.hid hnum; clear hnum
  have HR : Hid (rdOps xs m = (rdNum xs m 1024).bind fun n p => rdList xs n p []) := Lib.hid rfl
  have HN5 : Hid ((rdNum xs m 1024).getD 0 ≤ 1024) := Lib.hid (by
    rcases h : rdNum xs m 1024 with ⟨a, b⟩ | ⟨a, b⟩
    · exact (rdNum_ok h HI.out.2.1).1
    · exact Nat.zero_le _)
  generalize rdNum xs m 1024 = r at HN HR HN5
  go_enter Try.func30, Try.ntmps30
  go_wp2_with fail
  refine HN.out.mono ?_
  rintro e' w2 ⟨rfl, hI2, hm2⟩
  obtain ⟨y, a, hya⟩ := r.errv_nat
  obtain ⟨n, hn⟩ : ∃ n, r.getD 0 = n := ⟨_, rfl⟩
  have hvv : Rd.valv (fun x : Nat => Value.int .u64 (x : Nat)) (.int .u64 0) r = (.int .u64 (n : Nat)) := by rw [← hn]; exact Rd.valv_getD _ _ _
  rw [hvv, hya]
  unfold errV
  have hn6 : n ≤ 1024 := hn ▸ HN5.out
  obtain ⟨e, he⟩ : ∃ e, w2.heap.size = e := ⟨_, rfl⟩
  obtain ⟨w3, hw3⟩ : ∃ w3, w2.alloc (.cells #[.int .i64 (y : Int), .int .i64 (a : Int)] 57) = w3 := ⟨_, rfl⟩
  obtain ⟨f, hf⟩ : ∃ f, w3.heap.size = f := ⟨_, rfl⟩
  have HG : Hid (GT w p g xs z e r.st (.slice (some ⟨f, 0, none⟩) 0 0) [] y a (w3.alloc (.cells #[] 33))) := Lib.hid (by
    have h7 : Mod [] w2 w3 := hw3 ▸ (Mod.refl [] w2).alloc _
    have h8 : Mod [] w2 (w3.alloc (.cells #[] 33)) := h7.alloc _
    have h9 : Mod [p] w1 (w3.alloc (.cells #[] 33)) := hm2.trans (h8.mono (by simp))
    have h10 : Blk w3 e 57 #[.int .i64 y, .int .i64 a] := by rw [← hw3, ← he]; exact Blk.new _ _ _
    have h11 := h10.lt
    have h12 := HZ1.out.lt
    have h13 := hm2.size
    exact ⟨hI2.mod h8 (by simp) (by simp), h10.alloc _, HZ1.out.mod h9 (by simp; omega), hf ▸ OwnO.empty w3, (HM1.out.mono (by simp)).trans h9, hpw, by omega, by omega, hgw, by simp [blks, Value.ownBlock]; omega⟩)
  have HS : Hid (GS xs (rdOps xs m) n 0 [] y a r.st) := Lib.hid (by
    rw [HR.out]
    cases r with
    | ok x pos =>
      have h1 : errV 0 0 = errV y a := hya
      unfold errV at h1
      simp at h1
      cases hn
      exact ⟨by omega, by omega, rfl, rfl⟩
    | bad y' a' =>
      have h1 : errV y' a' = errV y a := hya
      unfold errV at h1
      simp at h1
      exact ⟨by omega, by omega, rfl⟩)
  clear hya hn HR HN5 HN hI2 hm2 hvv HI1 HZ1 HM1 hpw hgw
  go_wp2_with fail
  clear hw1 hw3 he hf hzz
  have HZG := HZ
  generalize w3.alloc (.cells #[] 33) = w4 at *
  go_loopw [7, 6] (fun s7 s6 wr => ∃ (i : Nat) (l : List GOp) (A : Option Addr) (c y a : Nat) (s : Rd Unit), s7 = .int .i64 (i : Int) ∧ s6 = .slice A l.length c ∧ i ≤ n ∧ Hid (GT w p g xs z e s (.slice A l.length c) l y a wr) ∧ Hid (GS xs (rdOps xs m) n i l y a s)) (fun s _ _ => n - (intOf s).toNat)
  case atStart => exact ⟨0, [], _, _, y, a, _, rfl, rfl, by omega, HG, HS⟩
  case round =>
    clear HG HS
    obtain ⟨i, l, A, c, y, a, s, rfl, rfl, hi, HG, HS⟩ := hrel
    obtain ⟨e0, e1, fe0, fe1, z0, z1, fz0, fz1, hez, hze, hel, hzl⟩ := HG.out.open_
    cases s with
    | bad y' a' =>
      obtain ⟨rfl, rfl, hr⟩ := HS.out
      have hy : ¬ ((y : Int) = 0) := by have := HG.out.1.2.2 y a rfl; omega
      have HR := Lib.hid hr
      clear HS hr
      by_cases hil : i < n
      · go_wp2_with fail
        go_region
        go_wp2
        have HE := Lib.hid (HG.out.setZ y a)
        rw [HR.out]
        exact bodyPost_ret (results_tmp_row rtErr rfl rfl HE.out.2.1 rfl) rfl ⟨rfl, HE.out.1, HE.out.2.2.2⟩
      · have hie : i = n := by omega
        subst hie
        go_wp2_with fail
        go_region
        go_wp2
        have HE := Lib.hid (HG.out.setZ y a)
        rw [HR.out]
        exact bodyPost_ret (results_tmp_row rtErr rfl rfl HE.out.2.1 rfl) rfl ⟨rfl, HE.out.1, HE.out.2.2.2⟩
    | ok u pos =>
      obtain ⟨rfl, rfl, hl, hr⟩ := HS.out
      have HL := Lib.hid hl
      have HR := Lib.hid hr
      clear HS hl hr
      by_cases hil : i < n
      · obtain ⟨gd, hod, hgd'⟩ := HG.out.2.2.2.1.os
        have HLL : Hid (l.length ≤ 1024) := Lib.hid (by have := HL.out; omega)
        have hone := refOne_any l gd _ p g pos xs wr HG.out.1 HZ.out hod (fun h0 hp => by
          obtain ⟨k1, k2, k3, k4, k5, j1, j2, j3, j4, j5⟩ := HG.out
          have := j5 gd (hgd' h0)
          omega) HLL.out
        have HONE := Lib.hid hone
        have hR := HR.out
        rw [show n - i = (n - i - 1) + 1 by omega] at hR
        unfold rdList at hR
        have HR2 := Lib.hid hR
        clear hone hod hgd' hR HR
        generalize rdOp xs pos l = r3 at HONE HR2
        go_wp2_with fail
        refine HONE.out.mono ?_
        rintro e' w5 ⟨o, rfl, ho, hI5, hm5⟩
        obtain ⟨y, a, hya⟩ := r3.errv_nat
        rw [hya]
        unfold errV
        have HGnew := Lib.hid (HG.out.read hI5 hm5); clear HG; have HG := HGnew; clear HGnew
        clear e0 e1 fe0 fe1 z0 z1 fz0 fz1 hez hze hel hzl
        clear hI5 hm5 HONE
        have HS : Hid (GS xs (rdOps xs m) n (i + 1) (l ++ [o]) y a r3.st) := Lib.hid (by
          cases r3 with
          | ok o' pos' =>
            have h1 : errV 0 0 = errV y a := hya
            unfold errV at h1
            simp at h1
            cases ho o' pos' rfl
            exact ⟨by omega, by omega, by have := HL.out; simp; omega, by rw [← HR2.out, show n - (i + 1) = n - i - 1 by omega]; rfl⟩
          | bad y' a' =>
            have h1 : errV y' a' = errV y a := hya
            unfold errV at h1
            simp at h1
            exact ⟨by omega, by omega, by rw [← HR2.out]; rfl⟩)
        clear HR2 hya ho
        generalize r3.st = s at *
        go_upto_region 7 with (first | ((with_reducible refine wpList_alloc_op rfl ?hgd ?_); (case hgd => exact rfl); intro q w6 hq6 hm6 hq1 hq2; have HQ6 := Lib.hid hq6; have HM6 := Lib.hid hm6; have HQL := Lib.hid (And.intro hq1 hq2); clear hq6 hm6 hq1 hq2) | ((with_reducible refine wpList_store_opV (o := o) _ _ rfl ?hgd ?hx ?hy (HQ6.out.alloc _) ?_); (case hgd => exact rfl); (case hx => exact rfl); (case hy => exact rfl); intro w7 hv7 hm7; have HV7 := Lib.hid hv7; have HM7 := Lib.hid hm7; have HX7 : Hid (Blk w7 w6.heap.size 57 #[.int .i64 0, .int .i64 0]) := Lib.hid ((Blk.new w6 _ _).mod hm7 (by have := HQL.out.2; simp; omega)); clear hv7 hm7) | ((with_reducible refine wpList_store_blk rtErr (cells := [.int .i64 (y : Int), .int .i64 (a : Int)]) _ _ rfl ?hgd ?hx ?hy HX7.out ?hl ?hold ?hone ?_); (case hgd => exact rfl); (case hx => exact rfl); (case hy => exact rfl); (case hl => exact rfl); (case hold => exact rfl); (case hone => simp [Value.oneCell']); intro w8 hv8 hm8; have HX8 := Lib.hid hv8; have HM8 := Lib.hid hm8; clear hv8 hm8))
        have HM : Hid (Mod [] w5 w8) := Lib.hid (((HM6.out.alloc _).then HM7.out (fun b hb => by simp at hb; subst hb; exact .inr HQL.out.1)).then HM8.out (fun b hb => by simp at hb; subst hb; exact .inr HM6.out.size))
        have HQE : Hid (q ≠ e) := Lib.hid (by
          have h1 := HG.out.2.1.lt
          have h2 := HQL.out.1
          omega)
        have HQ8 : Hid (OpAt w8 q 0 o) := Lib.hid (CellsAt.of_blk (Blk.mod HV7.out HM8.out (by have := HQL.out.2; simp; omega)))
        have hx0 := HX8.out.cell 0
        have hx1 := HX8.out.cell 1
        have hxl := HX8.out.lt
        have hq8 : q < w8.heap.size := by have := HQL.out.2; omega
        have HGnew := Lib.hid (HG.out.mod HM.out); clear HG; have HG := HGnew; clear HGnew
        obtain ⟨k, hk⟩ : ∃ k, w6.heap.size = k := ⟨_, rfl⟩
        rw [hk] at HX8 hx0 hx1 hxl ⊢
        clear HV7 HM7 HX7 HM8 HQ6 HM6 HQL hk
        obtain ⟨e0, e1, fe0, fe1, z0, z1, fz0, fz1, hez, hze, hel, hzl⟩ := HG.out.open_
        go_upto_region 8 with fail
        clear e0 e1 fe0 fe1 z0 z1 fz0 fz1 hez hze hel hzl
        have HGnew := Lib.hid (HG.out.setE y a); clear HG; have HG := HGnew; clear HGnew
        have HQ9 : Hid (OpAt ((w8.setCell ⟨e, 0, none⟩ (.int .i64 (y : Int))).setCell ⟨e, 1, none⟩ (.int .i64 (a : Int))) q 0 o) := Lib.hid (HQ8.out.mod (((Mod.refl [e] w8).setCell _ (by simp) _).setCell _ (by simp) _) (by have := HQE.out; simp; omega))
        have hq9 : q < ((w8.setCell ⟨e, 0, none⟩ (.int .i64 (y : Int))).setCell ⟨e, 1, none⟩ (.int .i64 (a : Int))).heap.size := by simpa using hq8
        generalize (w8.setCell ⟨e, 0, none⟩ (.int .i64 (y : Int))).setCell ⟨e, 1, none⟩ (.int .i64 (a : Int)) = w9 at *
        clear HX8 HM HQ8 HQE hx0 hx1 hxl hq8
        go_wp2_with (first | ((with_reducible refine wpList_load_op _ rfl ?hgd HQ9.out ?hx ?_); (case hgd => exact rfl); (case hx => exact rfl)) | ((with_reducible refine wpList_buildSlice_op (o := o) _ rfl ?hgd ?hx ?_); (case hgd => exact rfl); (case hx => exact rfl); intro g5 w10 hs5 hm5 hg5 hg6; have HS5 := Lib.hid hs5; have HM5 := Lib.hid hm5; have HO5 := Lib.hid (HG.out.2.2.2.1.mod hm5 (by simp)); clear hs5 hm5) | (at_builtin; refine wpList_append_ops rfl _ _ rfl HO5.out rfl HS5.out rfl ?_ ?hz; intro A6 n6 cap6 w11 ho6 HN6 hm6 HF6; have HO6 := Lib.hid ho6; have HM6 := Lib.hid hm6; clear ho6 hm6))
        case hz => have := HLL.out; simp; omega
        obtain ⟨A7, cap7, he7, _, _⟩ := HO6.out.val
        injection he7 with hA hn hc
        subst hA hn hc
        go_roundw
        case rel =>
          exact ⟨i + 1, l ++ [o], _, _, y, a, s, by go_num, rfl, by omega, Lib.hid ((HG.out.mod HM5.out).own HO6.out HM6.out (fun b hb => by rcases HF6.out b hb with h | h; (· exact .inl h); (· exact .inr (by omega)))), HS⟩
        case measure => simp [intOf]; omega
      · have hie : i = n := by omega
        subst hie
        go_wp2_with fail
        go_region
        go_wp2
        have HE := Lib.hid (HG.out.setZ 0 0)
        have hr : rdOps xs m = .ok l pos := by rw [← HR.out, Nat.sub_self]; rfl
        rw [hr]
        exact bodyPost_ret (results_tmp_row rtErr rfl rfl HE.out.2.1 rfl) rfl ⟨A, _, c, rfl, HE.out.2.2.1, HE.out.1, HE.out.2.2.2, HG.out.fresh⟩
end Go.Proofs.Ytdiplliemdogfaa
