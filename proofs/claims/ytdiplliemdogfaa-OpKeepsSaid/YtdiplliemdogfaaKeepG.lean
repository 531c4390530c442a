import Derived.Test.YtdiplliemdogfaaGets
set_option linter.unusedVariables false
set_option linter.unusedSimpArgs false
set_option maxRecDepth 20000
set_option maxHeartbeats 1600000
namespace Go.Proofs.Ytdiplliemdogfaa
open Go.RowKit

def OwnC (w : World) (v : Value) (n : Nat) : Prop := ∃ cs, w.ownsRow 0 33 37 v n cs
theorem OwnO.c {w : World} {v : Value} {l : List GOp} (h : OwnO w v l) : OwnC w v l.length := ⟨_, h⟩
/-- a list of its own, whatever it holds; two others, elsewhere -/
def KK (w : World) (v1 : Value) (n : Nat) (v2 v3 : Value) (l : List GOp) (wr : World) : Prop :=
  OwnC wr v1 n ∧ OwnO wr v2 l ∧ OwnO wr v3 l ∧ Mod [] w wr ∧ ∀ b ∈ blks v1, w.heap.size ≤ b ∧ b ∉ blks v2 ∧ b ∉ blks v3
theorem KK.step {w wr w' : World} {v1 v1' v2 v3 : Value} {n n' : Nat} {l : List GOp} (h : KK w v1 n v2 v3 l wr) (ho : OwnC w' v1' n') (hm : Mod (blks v1) wr w') (hb : ∀ b ∈ blks v1', b ∈ blks v1 ∨ wr.heap.size ≤ b) : KK w v1' n' v2 v3 l w' := by
  obtain ⟨k1, k2, k3, k4, k5⟩ := h
  refine ⟨ho, k2.mod hm (fun b h1 h2 => (k5 b h2).2.1 h1), k3.mod hm (fun b h1 h2 => (k5 b h2).2.2 h1), k4.then hm (fun b h1 => .inr (k5 b h1).1), fun b h1 => ?_⟩
  rcases hb b h1 with h2 | h2
  · exact k5 b h2
  · exact ⟨Nat.le_trans k4.size h2, fun h3 => absurd (k2.lt b h3) (by omega), fun h3 => absurd (k3.lt b h3) (by omega)⟩
theorem KK.mod {w wr w' : World} {v1 v2 v3 : Value} {n : Nat} {l : List GOp} (h : KK w v1 n v2 v3 l wr) (hm : Mod [] wr w') : KK w v1 n v2 v3 l w' := by
  obtain ⟨⟨cs, k1⟩, k2, k3, k4, k5⟩ := h
  exact ⟨⟨cs, own_mod k1 hm (by simp)⟩, k2.mod hm (by simp), k3.mod hm (by simp), k4.trans hm, k5⟩
/-- an element of a list of its own is written -/
theorem wpList_store_elem {ops : Array Oper} {rest : List Oper} {op : Oper} {a : Act} {w : World} {Q : Exit → Act → World → Prop} (x y : Operand) (ho : op.op = .store 33 x y) (hgd : Region.wanted op (yielded ops a.tmps) = true) {g i n cap : Nat} {o : GOp}
    (hx : a.eval x = .pointer (some ⟨g, i * 37, none⟩)) (hy : a.eval y = .agg o.cells.toArray) (hown : OwnC w (.slice (some ⟨g, 0, none⟩) n cap) n) (hi : i < n)
    (h : ∀ w', OwnC w' (.slice (some ⟨g, 0, none⟩) n cap) n → Mod [g] w w' → wpList Try.prog ops Q rest (a.put op.dst undef) w') : wpList Try.prog ops Q (op :: rest) a w := by
  obtain ⟨cs, hl, hc⟩ := hown
  rcases hc with ⟨h1, _⟩ | ⟨g', cap', cur, he, hb, hg, h1, h2, h3, h4⟩
  · cases h1
  injection he with he1 he2 he3
  injection he1 with he1
  injection he1 with he1
  subst he1 he3
  have hi2 : i * 37 + 37 ≤ n * 37 := by omega
  have hn2 : n * 37 ≤ cap * 37 := by omega
  refine wpList_store_part rtOp (k := i * 37) x y ho hgd hx hy (show Blk w g 33 cur from hg) o.cells_length (by omega) o.one fun w' hv hm => h w' ⟨_, ?_, .inr ⟨g, cap, _, rfl, Nat.zero_le _, hv, h1, h2, ?_, rfl⟩⟩ hm
  · have hz : (List.take (i * 37) cur.toList ++ o.cells ++ List.drop (i * 37 + o.cells.length) cur.toList).length = cap * 37 := by
      simp [GOp.cells_length, h3]; omega
    simp only [List.length_take, hz]
    omega
  · simp [GOp.cells_length, h3]; omega
theorem wpList_append_c {ops : Array Oper} {rest : List Oper} {o : Oper} {a : Act} {Q : Exit → Act → World → Prop} {w : World} (hgd : Region.wanted o (yielded ops a.tmps) = true) (s x : Operand)
    (ho : o.op = .call { callee := .builtin .append, args := #[s, x], argTypes := #[23, 23] })
    {v : Value} {n : Nat} (hown : OwnC w v n) (hs : a.eval s = v) {g : Nat} {sv : Value} {y : GOp} (hr : OS w g sv [y]) (hx : a.eval x = sv)
    (h : ∀ A' cap' w', OwnC w' (.slice A' (n + 1) cap') (n + 1) → Mod (blks v) w w' → Hid (∀ b ∈ blks (.slice A' (n + 1) cap'), b ∈ blks v ∨ b = w.heap.size) → wpList Try.prog ops Q rest (a.put o.dst (.slice A' (n + 1) cap')) w') (hz : n ≤ 2000000000000) :
    wpList Try.prog ops Q (o :: rest) a w := by
  obtain ⟨cs, hc⟩ := hown
  exact wpList_append_rs etOps hgd s x ho hc hs (show RS w 37 g sv 1 ([y].flatMap GOp.cells) from hr) hx (ops_one [y]) (by unfold maxLen; omega) (by omega) fun A' cap' w' h1 h2 h3 => h A' cap' w' ⟨_, h1⟩ h2 (Lib.hid h3)
theorem OwnC.ptr {w : World} {A : Option Addr} {n c : Nat} (h : OwnC w (.slice A n c) n) (hn : 0 < n) : ∃ ga, A = some ⟨ga, 0, none⟩ := by
  obtain ⟨cs, hl, hc⟩ := h
  rcases hc with ⟨h1, h2⟩ | ⟨g', cap', cur, he, _⟩
  · omega
  · injection he with he1
    exact ⟨g', he1⟩
theorem OwnC.cap {w : World} {A : Option Addr} {n c : Nat} (h : OwnC w (.slice A n c) n) : n ≤ c ∧ c ≤ maxLen := by
  obtain ⟨cs, hl, hc⟩ := h
  rcases hc with ⟨h1, h2⟩ | ⟨g', cap', cur, he, _, _, h3, h4, _⟩
  · injection h1 with _ _ h3
    subst h3 h2
    exact ⟨by omega, by decide⟩
  · injection he with _ _ he3
    subst he3
    exact ⟨h3, h4⟩
theorem getKeeps_any (xs : Bytes) (g : Nat) (sv : Value) (w : World) (hs : BS w g sv xs) (hz : xs.length ≤ 140737488355328) :
    Calls Try.prog 27 #[sv] w fun e w' => e = .returned (.bool true) ∧ Mod [] w w' := by
  obtain ⟨A, cap, rfl, hc1, hc2⟩ := hs.val
  have HS := Lib.hid hs; clear hs
  have HZ := Lib.hid hz; clear hz
  go_enter Try.func27, Try.ntmps27
  go_wp2_with fail
  refine (newIn_any _ g xs w HS.out HZ.out).mono ?_
  rintro e' w1 ⟨p1, g1, rfl, hI, hm, hp1, hg1⟩
  have HI1 := Lib.hid hI
  have HM1 := Lib.hid hm
  clear hI hm
  go_wp2_with fail
  refine (newIn_any _ g xs w1 (HS.out.mod HM1.out (by simp)) HZ.out).mono ?_
  rintro e' w2 ⟨p2, g2, rfl, hI, hm, hp2, hg2⟩
  have hp1l := HI1.out.lt
  have hg1l : 0 < xs.length → g1 < w1.heap.size := fun h0 => by obtain ⟨v, _, hr, _⟩ := HI1.out; obtain ⟨_, _, _, _, _, hl', _⟩ := hr.at_ h0; exact hl'
  have hgl : 0 < xs.length → g < w.heap.size := fun h0 => by obtain ⟨_, _, _, _, _, hl', _⟩ := HS.out.at_ h0; exact hl'
  have HI1new := Lib.hid (HI1.out.mod hm (by simp) (by simp)); clear HI1; have HI1 := HI1new; clear HI1new
  have HI2 := Lib.hid hI
  have HM2 := Lib.hid (HM1.out.trans hm)
  clear hI hm HM1
  have hget1 := opGet_any p1 g1 xs w2 0 HI1.out (by omega) HZ.out
  have HG1 := Lib.hid hget1
  have HG2 : Hid (∀ W, InB W p2 g2 xs 0 .nilIface → Calls Try.prog 24 #[ptr p2] W (GetP W p2 g2 xs (rdOps xs 0))) := Lib.hid (fun W hW => opGet_any p2 g2 xs W 0 hW (by omega) HZ.out)
  have HREF : Hid (∀ r W, RIn W r g xs (.ok () 0) → Calls Try.prog 30 #[ptr r] W (RGetP W r g xs (rdOps xs 0))) := Lib.hid (fun r W hW => refGet_any r g 0 xs W hW HZ.out)
  have HL : Hid (∀ l p, rdOps xs 0 = .ok l p → l.length ≤ 1024) := Lib.hid (fun l p h => (check_all (by rw [(rdOps_cut h (by omega)).2.2.2.1] : (checkOps l).1 = 0)).1)
  clear hget1
  have HP := Lib.hid (show p1 < w1.heap.size ∧ w1.heap.size ≤ p2 ∧ w.heap.size ≤ p1 ∧ w1.heap.size ≤ w2.heap.size ∧ p2 < w2.heap.size from ⟨hp1l, hp2, hp1, by have := HI2.out.lt; omega, HI2.out.lt⟩)
  clear hp1l hp2 hp1 hc1 hc2
  have HGG := Lib.hid (show 0 < xs.length → g1 < w1.heap.size ∧ w1.heap.size ≤ g2 ∧ w.heap.size ≤ g1 ∧ g < w.heap.size from fun h0 => ⟨hg1l h0, hg2 h0, hg1 h0, hgl h0⟩)
  clear hg1l hg2 hg1 hgl
  generalize rdOps xs 0 = R at HG1 HG2 HREF HL
  go_wp2_with fail
  refine HG1.out.mono ?_
  cases R with
  | ok l pos =>
    rintro e' w3 ⟨A1, n1, c1, rfl, ho1, hI3, hm3, hf1⟩
    have HLL := Lib.hid (HL.out l pos rfl)
    have HO1 := Lib.hid ho1
    have HF1 := Lib.hid hf1
    have HI2new := Lib.hid (HI2.out.mod hm3 (by have := HP.out; simp; omega) (fun h0 => by have := HGG.out h0; have := HP.out; simp; omega)); clear HI2; have HI2 := HI2new; clear HI2new
    have HM3 : Hid (Mod [] w w3) := Lib.hid (HM2.out.then hm3 (by have := HP.out; simp; omega))
    clear ho1 hf1 hI3 hm3 HG1 HL HM2 HI1
    go_wp2_with fail
    refine (HG2.out w3 HI2.out).mono ?_
    rintro e' w4 ⟨A2, n2, c2, rfl, ho2, hI4, hm4, hf2⟩
    have hd12 : ∀ b ∈ blks (.slice A1 n1 c1), b ∉ blks (.slice A2 n2 c2) := fun b h1 h2 => by have := HO1.out.lt b h1; have := hf2 b h2; omega
    have HO1new := Lib.hid (HO1.out.mod hm4 (fun b hb => by have := HF1.out b hb; have := HP.out; simp; omega)); clear HO1; have HO1 := HO1new; clear HO1new
    have HM4 : Hid (Mod [] w w4) := Lib.hid (HM3.out.then hm4 (by have := HP.out; simp; omega))
    have HD12 := Lib.hid hd12
    have HO2 := Lib.hid ho2
    obtain ⟨_, _, hx1, _, _⟩ := HO1.out.val
    injection hx1 with hx1 hx2 hx3
    subst hx1 hx2 hx3
    obtain ⟨_, _, hx1, _, _⟩ := HO2.out.val
    injection hx1 with hx1 hx2 hx3
    subst hx1 hx2 hx3
    have HW : Hid (w.heap.size ≤ w4.heap.size) := Lib.hid HM4.out.size
    have hw23 : w.heap.size ≤ w2.heap.size := by have := HP.out; omega
    have HFW : Hid (∀ b ∈ blks (.slice A1 l.length c1), w.heap.size ≤ b) := Lib.hid (fun b hb => by have := HF1.out b hb; omega)
    clear ho2 hd12 hI4 hm4 hf2 HM3 HI2 HG2 HF1 HP hw23
    obtain ⟨r, hr⟩ : ∃ r, w4.heap.size = r := ⟨_, rfl⟩
    obtain ⟨w5, hw5⟩ : ∃ w5, w4.alloc (.cells #[.slice A xs.length cap, .int .i64 0, .int .i64 0, .int .i64 0] 59) = w5 := ⟨_, rfl⟩
    have hm5 : Mod [] w4 w5 := hw5 ▸ (Mod.refl [] w4).alloc _
    have hB5 : Blk w5 r 59 #[.slice A xs.length cap, .int .i64 0, .int .i64 0, .int .i64 0] := by rw [← hw5, ← hr]; exact Blk.new _ _ _
    have hR5 : RIn w5 r g xs (.ok () 0) := ⟨⟨_, hB5, HS.out.mod (HM4.out.trans hm5) (by simp), fun h0 => by have := HGG.out h0; have := HW.out; omega⟩, by simp [posOf], fun y a h => by cases h⟩
    have HR5 := Lib.hid (HREF.out r w5 hR5)
    have hrl : ∀ b ∈ blks (.slice A1 l.length c1), b < r := fun b hb => by have := HO1.out.lt b hb; omega
    have hrl2 : ∀ b ∈ blks (.slice A2 l.length c2), b < r := fun b hb => by have := HO2.out.lt b hb; omega
    have hr5 : r < w5.heap.size := hB5.lt
    have HO1new := Lib.hid (HO1.out.mod hm5 (by simp)); clear HO1; have HO1 := HO1new; clear HO1new
    have HO2new := Lib.hid (HO2.out.mod hm5 (by simp)); clear HO2; have HO2 := HO2new; clear HO2new
    have HM5 := Lib.hid (HM4.out.trans hm5)
    clear hm5 hB5 hR5 HREF HM4 HGG
    have HRL := Lib.hid (And.intro hrl (And.intro hrl2 hr5))
    clear hrl hrl2 hr5
    go_wp2_with fail
    refine HR5.out.mono ?_
    rintro e' w6 ⟨A3, n3, c3, rfl, ho3, hI6, hm6, hf3⟩
    obtain ⟨_, _, hx1, _, _⟩ := ho3.val
    injection hx1 with hx1 hx2 hx3
    subst hx1 hx2 hx3
    have HK : Hid (KK w (.slice A1 l.length c1) l.length (.slice A2 l.length c2) (.slice A3 l.length c3) l w6) := Lib.hid ⟨(HO1.out.mod hm6 (fun b hb => by have := HRL.out.1 b hb; simp; omega)).c, HO2.out.mod hm6 (fun b hb => by have := HRL.out.2.1 b hb; simp; omega), ho3, HM5.out.then hm6 (by have := HW.out; simp; omega), fun b hb => ⟨HFW.out b hb, HD12.out b hb, fun h3 => by have := hf3 b h3; have := HRL.out.1 b hb; have := HRL.out.2.2; omega⟩⟩
    have HO1' : Hid (OwnO w6 (.slice A1 l.length c1) l) := Lib.hid (HO1.out.mod hm6 (fun b hb => by have := HRL.out.1 b hb; simp; omega))
    clear HO1 ho3 hI6 hm6 hf3 HR5 HM5 HRL HD12 HFW HW hr hw5 HO2
    unfold errV
    go_upto_region 8 with fail
    have HE := Lib.hid (Blk.new w6 57 #[.int .i64 0, .int .i64 0])
    have hm7 : Mod [] w6 (w6.alloc (.cells #[.int .i64 0, .int .i64 0] 57)) := (Mod.refl [] w6).alloc _
    have HKnew := Lib.hid (HK.out.mod hm7); clear HK; have HK := HKnew; clear HKnew
    have HO1'new := Lib.hid (HO1'.out.mod hm7 (by simp)); clear HO1'; have HO1' := HO1'new; clear HO1'new
    clear hm7
    generalize w6.alloc (.cells #[.int .i64 0, .int .i64 0] 57) = w7 at *
    generalize w6.heap.size = ee at *
    have hw0 : Mod [] w7 w7.drew := (Mod.refl _ w7).drew
    have hE : ∀ W, Mod [] w7 W → W.cell? ⟨ee, 0, none⟩ = some (.int .i64 0) := fun W hW => (HE.out.mod hW (by simp)).cell 0
    have HSL : Hid (Calls Try.prog 26 #[.slice A1 l.length c1, .slice A3 l.length c3] w7.drew fun e' w' => e' = .returned (.bool true) ∧ Mod [] w7.drew w') := Lib.hid (by
      obtain ⟨ga, hsa, _⟩ := (HO1'.out.mod hw0 (by simp)).os
      obtain ⟨gb, hsb, _⟩ := ((HK.out.mod hw0).2.2.1).os
      have hsl := refSameList_any l l ga gb _ _ w7.drew hsa hsb
      rw [decide_eq_true (rfl : l = l)] at hsl
      exact hsl)
    go_wp2_with fail
    refine wp_regionE (Mod []) (by kernel_rfl) ?_
    simp only [List.size_toArray, List.length_cons, List.length_nil, Nat.zero_add, Nat.reduceAdd]
    refine wpAnyE_takeL (preMod _) 0 (v := ?_) rfl (by kernel_rfl) (by kernel_rfl) (by kernel_rfl) (fun _ _ _ h => h) (Or.inl ⟨by rfl, ?_⟩) ?_
    rotate_left; (intro W hW; (try dsimp only at hW); go_simp; try with_reducible rfl)
    (try simp only [Act.put, List.setIfInBounds_toArray, List.set_cons_zero, List.set_cons_succ])
    refine wpAnyE_takeL (preMod _) 1 (v := ?_) rfl (by kernel_rfl) (by kernel_rfl) (by kernel_rfl) (fun _ _ _ h => h) (Or.inl ⟨by rfl, ?_⟩) ?_
    rotate_left; (intro W hW; (try dsimp only at hW); go_simp; try with_reducible rfl)
    (try simp only [Act.put, List.setIfInBounds_toArray, List.set_cons_zero, List.set_cons_succ])
    refine wpAnyE_takeL (preMod _) 2 (v := ?_) rfl (by kernel_rfl) (by kernel_rfl) (by kernel_rfl) (fun _ _ _ h => h) (Or.inl ⟨by rfl, ?_⟩) ?_
    rotate_left; (intro W hW; (try dsimp only at hW); go_simp; try with_reducible rfl)
    (try simp only [Act.put, List.setIfInBounds_toArray, List.set_cons_zero, List.set_cons_succ])
    refine wpAnyE_takeL (preMod _) 3 (v := ?_) rfl (by kernel_rfl) (by kernel_rfl) (by kernel_rfl) (fun _ _ _ h => h) (Or.inl ⟨by rfl, ?_⟩) ?_
    rotate_left; (intro W hW; (try dsimp only at hW); (have hc := hE W (hw0.trans hW); go_simp); try with_reducible rfl)
    (try simp only [Act.put, List.setIfInBounds_toArray, List.set_cons_zero, List.set_cons_succ])
    refine wpAnyE_takeL (preMod _) 4 (v := ?_) rfl (by kernel_rfl) (by kernel_rfl) (by kernel_rfl) (fun _ _ _ h => h) (Or.inl ⟨by rfl, ?_⟩) ?_
    rotate_left; (intro W hW; (try dsimp only at hW); go_simp; try with_reducible rfl)
    (try simp only [Act.put, List.setIfInBounds_toArray, List.set_cons_zero, List.set_cons_succ])
    refine wpAnyE_takeL (preMod _) 5 (v := ?_) rfl (by kernel_rfl) (by kernel_rfl) (by kernel_rfl) (fun _ _ _ h => h) (Or.inl ⟨by rfl, ?_⟩) ?_
    rotate_left; (intro W hW; (try dsimp only at hW); go_simp; try with_reducible rfl)
    (try simp only [Act.put, List.setIfInBounds_toArray, List.set_cons_zero, List.set_cons_succ])
    refine wpAnyE_takeL (preMod _) 6 (v := ?_) rfl (by kernel_rfl) (by kernel_rfl) (by kernel_rfl) (fun _ _ _ h => h) (Or.inl ⟨by rfl, ?_⟩) ?_
    rotate_left; (intro W hW; (try dsimp only at hW); go_simp; try with_reducible rfl)
    (try simp only [Act.put, List.setIfInBounds_toArray, List.set_cons_zero, List.set_cons_succ])
    refine wpAnyE_takeL (preMod _) 7 (v := ?_) rfl (by kernel_rfl) (by kernel_rfl) (by kernel_rfl) (fun _ _ _ h => h) (Or.inl ⟨by rfl, ?_⟩) ?_
    rotate_left; (intro W hW; (try dsimp only at hW); go_simp; try with_reducible rfl)
    (try simp only [Act.put, List.setIfInBounds_toArray, List.set_cons_zero, List.set_cons_succ])
    refine wpAnyE_takeL (preMod _) 8 (v := ?_) rfl (by kernel_rfl) (by kernel_rfl) (by kernel_rfl) (fun _ _ _ h => h) (Or.inl ⟨by rfl, ?_⟩) ?_
    rotate_left; (intro W hW; (try dsimp only at hW); go_simp; try with_reducible rfl)
    (try simp only [Act.put, List.setIfInBounds_toArray, List.set_cons_zero, List.set_cons_succ])
    refine wpAnyE_takeL (preMod _) 9 (v := ?_) rfl (by kernel_rfl) (by kernel_rfl) (by kernel_rfl) (fun _ _ _ h => h) (Or.inl ⟨by rfl, ?_⟩) ?_
    rotate_left; (intro W hW; (try dsimp only at hW); go_simp; try with_reducible rfl)
    (try simp only [Act.put, List.setIfInBounds_toArray, List.set_cons_zero, List.set_cons_succ])
    refine wpAnyE_takeL (preMod _) 10 (v := ?_) rfl (by kernel_rfl) (by kernel_rfl) (by kernel_rfl) (fun _ _ _ h => h) (Or.inl ⟨by rfl, ?_⟩) ?_
    rotate_left; (intro W hW; (try dsimp only at hW); (have hc := hE W (hw0.trans hW); go_simp); try with_reducible rfl)
    (try simp only [Act.put, List.setIfInBounds_toArray, List.set_cons_zero, List.set_cons_succ])
    refine wpAnyE_takeL (preMod _) 11 (v := ?_) rfl (by kernel_rfl) (by kernel_rfl) (by kernel_rfl) (fun _ _ _ h => h) (Or.inl ⟨by rfl, ?_⟩) ?_
    rotate_left; (intro W hW; (try dsimp only at hW); go_simp; try with_reducible rfl)
    (try simp only [Act.put, List.setIfInBounds_toArray, List.set_cons_zero, List.set_cons_succ])
    refine wpAnyE_takeL (preMod _) 12 (v := ?_) rfl (by kernel_rfl) (by kernel_rfl) (by kernel_rfl) (fun _ _ _ h => h) (Or.inl ⟨by rfl, ?_⟩) ?_
    rotate_left; (intro W hW; (try dsimp only at hW); go_simp; try with_reducible rfl)
    (try simp only [Act.put, List.setIfInBounds_toArray, List.set_cons_zero, List.set_cons_succ])
    refine wpAnyE_takeL (preMod _) 13 (v := ?_) rfl (by kernel_rfl) (by kernel_rfl) (by kernel_rfl) (fun _ _ _ h => h) (Or.inl ⟨by rfl, ?_⟩) ?_
    rotate_left; (intro W hW; (try dsimp only at hW); go_simp; try with_reducible rfl)
    (try simp only [Act.put, List.setIfInBounds_toArray, List.set_cons_zero, List.set_cons_succ])
    refine wpAnyE_takeL (preMod _) 14 (v := ?_) rfl (by kernel_rfl) (by kernel_rfl) (by kernel_rfl) (fun _ _ _ h => h) (Or.inl ⟨by rfl, ?_⟩) ?_
    rotate_left; (intro W hW; (try dsimp only at hW); go_simp; try with_reducible rfl)
    (try simp only [Act.put, List.setIfInBounds_toArray, List.set_cons_zero, List.set_cons_succ])
    refine wpAnyE_takeL (preMod _) 15 (v := ?_) rfl (by kernel_rfl) (by kernel_rfl) (by kernel_rfl) (fun _ _ _ h => h) (Or.inl ⟨by rfl, ?_⟩) ?_
    rotate_left; (intro W hW; (try dsimp only at hW); go_simp; try with_reducible rfl)
    (try simp only [Act.put, List.setIfInBounds_toArray, List.set_cons_zero, List.set_cons_succ])
    refine wpAnyE_takeL (preMod _) 16 (v := ?_) rfl (by kernel_rfl) (by kernel_rfl) (by kernel_rfl) (fun _ _ _ h => h) (Or.inl ⟨by rfl, ?_⟩) ?_
    rotate_left; (intro W hW; (try dsimp only at hW); go_simp; try with_reducible rfl)
    (try simp only [Act.put, List.setIfInBounds_toArray, List.set_cons_zero, List.set_cons_succ])
    refine wpAnyE_ready (rs := [17]) (by kernel_rfl) (by simp) ?_
    refine AllReadyE.consL rfl (fun K hK => ?_) AllReadyE.nil
    rw [if_pos (by rfl)]
    go_simp
    go_at_call 26
    refine HSL.out.mono ?_
    rintro e' w8 ⟨rfl, hm8⟩
    have hmE := hm8
    have HKnew := Lib.hid (HK.out.mod (hw0.trans hm8)); clear HK; have HK := HKnew; clear HKnew
    clear hm8
    go_wp2_with fail
    refine hK.out _ _ (by first | exact hmE | exact Mod.refl _ _ | exact (Mod.refl _ _).alloc _) ?_
    clear hK
    (try simp only [Act.put, List.setIfInBounds_toArray, List.set_cons_zero, List.set_cons_succ])
    refine wpAnyE_takeL (preMod _) 18 (v := ?_) rfl (by kernel_rfl) (by kernel_rfl) (by kernel_rfl) (fun _ _ _ h => h) (Or.inl ⟨by rfl, ?_⟩) ?_
    rotate_left; (intro W hW; (try dsimp only at hW); go_simp; try with_reducible rfl)
    (try simp only [Act.put, List.setIfInBounds_toArray, List.set_cons_zero, List.set_cons_succ])
    refine wpAnyE_takeL (preMod _) 19 (v := ?_) rfl (by kernel_rfl) (by kernel_rfl) (by kernel_rfl) (fun _ _ _ h => h) (Or.inl ⟨by rfl, ?_⟩) ?_
    rotate_left; (intro W hW; (try dsimp only at hW); go_simp; try with_reducible rfl)
    (try simp only [Act.put, List.setIfInBounds_toArray, List.set_cons_zero, List.set_cons_succ])
    refine wpAnyE_done (by kernel_rfl) ?_ _
    clear HO1' HSL HE hE hw0
    go_wp2_with fail
    clear hmE
    generalize w8 = w9 at *
    go_loopw [11] (fun s11 wr => ∃ i : Nat, s11 = .int .i64 (i : Int) ∧ i ≤ l.length ∧ Hid (KK w (.slice A1 l.length c1) l.length (.slice A2 l.length c2) (.slice A3 l.length c3) l wr)) (fun s _ => l.length - (intOf s).toNat)
    case atStart => exact ⟨0, rfl, by omega, HK⟩
    case round =>
      clear HK
      obtain ⟨i, rfl, hi, HK⟩ := hrel
      by_cases hil : i < l.length
      · obtain ⟨ga, rfl⟩ := HK.out.1.ptr (by omega)
        have hll := HLL.out
        have hcp := HK.out.1.cap
        unfold maxLen at hcp
        have HOC : Hid (OwnC wr (.slice (some ⟨ga, 0, none⟩) l.length c1) l.length) := Lib.hid HK.out.1
        go_wp2_with ((with_reducible refine wpList_store_elem (i := i) (o := ⟨-9, ⟨#[]⟩, ⟨#[]⟩, (i : Int), GIdent.zero⟩) _ _ rfl ?hgd ?hx ?hy HOC.out hil ?_); (case hgd => exact rfl); (case hx => exact rfl); (case hy => exact rfl); intro w9 ho9 hm9)
        have HKnew := Lib.hid (HK.out.step ho9 (by simpa [blks, Value.ownBlock] using hm9) (fun b hb => .inl hb)); clear HK; have HK := HKnew; clear HKnew
        go_roundw
        case rel => exact ⟨i + 1, by go_num, by omega, HK⟩
        case measure => simp [intOf]; omega
      · have hie : i = l.length := by omega
        subst hie
        go_wp2_with fail
        go_loopw [5, 12] (fun s5 s12 wr => ∃ (j n : Nat) (B : Option Addr) (c : Nat), s12 = .int .i64 (j : Int) ∧ s5 = .slice B n c ∧ j ≤ 20 ∧ n ≤ 1024 + j ∧ Hid (KK w (.slice B n c) n (.slice A2 l.length c2) (.slice A3 l.length c3) l wr)) (fun _ s _ => 20 - (intOf s).toNat)
        case atStart => exact ⟨0, _, _, _, rfl, rfl, by omega, by have := HLL.out; omega, HK⟩
        case round =>
          clear HK
          obtain ⟨j, n, B, c, rfl, rfl, hj, hn, HK⟩ := hrel
          by_cases hjl : j < 20
          · have HOC : Hid (OwnC wr (.slice B n c) n) := Lib.hid HK.out.1
            go_wp2_with (first | ((with_reducible refine wpList_buildSlice_op (o := ⟨-8, ⟨#[]⟩, ⟨#[]⟩, 0, GIdent.zero⟩) _ rfl ?hgd ?hx ?_); (case hgd => exact rfl); (case hx => exact rfl); intro g5 w10 hs5 hm5 hg5 hg6; have HS5 := Lib.hid hs5; have HM5 := Lib.hid hm5; have HO5 : Hid (OwnC w10 (.slice B n c) n) := Lib.hid (HK.out.mod hm5).1; clear hs5 hm5) | (at_builtin; refine wpList_append_c rfl _ _ rfl HO5.out rfl HS5.out rfl ?_ ?hz; intro A6 cap6 w11 ho6 hm6 HF6; have HO6 := Lib.hid ho6; have HM6 := Lib.hid hm6; clear ho6 hm6))
            case hz => omega
            have HK6 := Lib.hid ((HK.out.mod HM5.out).step HO6.out HM6.out (fun b hb => (HF6.out b hb).imp id (fun h => by omega)))
            go_roundw
            case rel => exact ⟨j + 1, n + 1, A6, cap6, by go_num, rfl, by omega, by omega, HK6⟩
            case measure => simp [intOf]; omega
          · obtain ⟨ga, hsa, _⟩ := HK.out.2.1.os
            obtain ⟨gb, hsb, _⟩ := HK.out.2.2.1.os
            have hsl := refSameList_any l l ga gb _ _ wr hsa hsb
            rw [decide_eq_true (rfl : l = l)] at hsl
            have HSL := Lib.hid hsl
            clear hsl hsa hsb
            go_wp2_with fail
            refine HSL.out.mono ?_
            rintro e' w12 ⟨rfl, hm12⟩
            go_wp2_with fail
            go_ret
            exact ⟨rfl, HK.out.2.2.2.1.trans hm12⟩
  | bad y a =>
    rintro e' w3 ⟨b1, rfl, hb1, hm3, hbl1⟩
    have HI2new := Lib.hid (HI2.out.mod hm3 (by have := HP.out; simp; omega) (fun h0 => by have := HGG.out h0; have := HP.out; simp; omega)); clear HI2; have HI2 := HI2new; clear HI2new
    have HM3 : Hid (Mod [] w w3) := Lib.hid (HM2.out.then hm3 (by have := HP.out; simp; omega))
    clear hb1 hm3 hbl1 HG1 HL HM2 HI1
    go_wp2_with fail
    refine (HG2.out w3 HI2.out).mono ?_
    rintro e' w4 ⟨b2, rfl, hb2, hm4, hbl2⟩
    have HM4 : Hid (Mod [] w w4) := Lib.hid (HM3.out.then hm4 (by have := HP.out; simp; omega))
    have HW : Hid (w.heap.size ≤ w4.heap.size) := Lib.hid HM4.out.size
    clear hb2 hm4 hbl2 HM3 HI2 HG2 HP
    obtain ⟨r, hr⟩ : ∃ r, w4.heap.size = r := ⟨_, rfl⟩
    obtain ⟨w5, hw5⟩ : ∃ w5, w4.alloc (.cells #[.slice A xs.length cap, .int .i64 0, .int .i64 0, .int .i64 0] 59) = w5 := ⟨_, rfl⟩
    have hm5 : Mod [] w4 w5 := hw5 ▸ (Mod.refl [] w4).alloc _
    have hB5 : Blk w5 r 59 #[.slice A xs.length cap, .int .i64 0, .int .i64 0, .int .i64 0] := by rw [← hw5, ← hr]; exact Blk.new _ _ _
    have hR5 : RIn w5 r g xs (.ok () 0) := ⟨⟨_, hB5, HS.out.mod (HM4.out.trans hm5) (by simp), fun h0 => by have := HGG.out h0; have := HW.out; omega⟩, by simp [posOf], fun y a h => by cases h⟩
    have HR5 := Lib.hid (HREF.out r w5 hR5)
    have HM5 := Lib.hid (HM4.out.trans hm5)
    clear hm5 hB5 hR5 HREF HM4 HGG
    unfold badV
    go_wp2_with fail
    refine HR5.out.mono ?_
    rintro e' w6 ⟨rfl, hI6, hm6⟩
    have hy0 : y ≠ 0 := hI6.2.2 y a rfl
    have HK : Hid (KK w (.slice none 0 0) 0 (.slice none 0 0) (.slice none 0 0) [] w6) := Lib.hid ⟨(OwnO.nil _).c, OwnO.nil _, OwnO.nil _, HM5.out.then hm6 (by have := HW.out; simp; omega), by simp [blks, Value.ownBlock]⟩
    clear hI6 hm6 HR5 HM5 HW hr hw5
    unfold errV
    go_upto_region 8 with fail
    have HE := Lib.hid (Blk.new w6 57 #[.int .i64 y, .int .i64 a])
    have hm7 : Mod [] w6 (w6.alloc (.cells #[.int .i64 y, .int .i64 a] 57)) := (Mod.refl [] w6).alloc _
    have HKnew := Lib.hid (HK.out.mod hm7); clear HK; have HK := HKnew; clear HKnew
    clear hm7
    generalize w6.alloc (.cells #[.int .i64 (y : Int), .int .i64 (a : Int)] 57) = w7 at *
    generalize w6.heap.size = ee at *
    have hw0 : Mod [] w7 w7.drew := (Mod.refl _ w7).drew
    have hE : ∀ W, Mod [] w7 W → W.cell? ⟨ee, 0, none⟩ = some (.int .i64 (y : Int)) := fun W hW => (HE.out.mod hW (by simp)).cell 0
    have hy1 : ¬ ((y : Int) = 0) := by omega
    have hyb : ((y : Int) == 0) = false := by simpa using hy0
    have HSL : Hid (Calls Try.prog 26 #[.slice none 0 0, .slice none 0 0] w7.drew fun e' w' => e' = .returned (.bool true) ∧ Mod [] w7.drew w') := Lib.hid (by
      obtain ⟨ga, hsa, _⟩ := (OwnO.nil w7.drew).os
      have hsl := refSameList_any [] [] ga ga _ _ w7.drew hsa hsa
      rw [decide_eq_true (rfl : ([] : List GOp) = [])] at hsl
      exact hsl)
    go_wp2_with fail
    refine wp_regionE (Mod []) (by kernel_rfl) ?_
    simp only [List.size_toArray, List.length_cons, List.length_nil, Nat.zero_add, Nat.reduceAdd]
    refine wpAnyE_takeL (preMod _) 0 (v := ?_) rfl (by kernel_rfl) (by kernel_rfl) (by kernel_rfl) (fun _ _ _ h => h) (Or.inl ⟨by rfl, ?_⟩) ?_
    rotate_left; (intro W hW; (try dsimp only at hW); go_simp; try with_reducible rfl)
    (try simp only [Act.put, List.setIfInBounds_toArray, List.set_cons_zero, List.set_cons_succ])
    refine wpAnyE_takeL (preMod _) 1 (v := ?_) rfl (by kernel_rfl) (by kernel_rfl) (by kernel_rfl) (fun _ _ _ h => h) (Or.inl ⟨by rfl, ?_⟩) ?_
    rotate_left; (intro W hW; (try dsimp only at hW); go_simp; try with_reducible rfl)
    (try simp only [Act.put, List.setIfInBounds_toArray, List.set_cons_zero, List.set_cons_succ])
    refine wpAnyE_takeL (preMod _) 2 (v := ?_) rfl (by kernel_rfl) (by kernel_rfl) (by kernel_rfl) (fun _ _ _ h => h) (Or.inl ⟨by rfl, ?_⟩) ?_
    rotate_left; (intro W hW; (try dsimp only at hW); go_simp; try with_reducible rfl)
    (try simp only [Act.put, List.setIfInBounds_toArray, List.set_cons_zero, List.set_cons_succ])
    refine wpAnyE_takeL (preMod _) 3 (v := ?_) rfl (by kernel_rfl) (by kernel_rfl) (by kernel_rfl) (fun _ _ _ h => h) (Or.inl ⟨by rfl, ?_⟩) ?_
    rotate_left; (intro W hW; (try dsimp only at hW); (have hc := hE W (hw0.trans hW); go_simp); try with_reducible rfl)
    (try simp only [Act.put, List.setIfInBounds_toArray, List.set_cons_zero, List.set_cons_succ])
    refine wpAnyE_takeL (preMod _) 4 (v := ?_) rfl (by kernel_rfl) (by kernel_rfl) (by kernel_rfl) (fun _ _ _ h => h) (Or.inl ⟨by rfl, ?_⟩) ?_
    rotate_left; (intro W hW; (try dsimp only at hW); go_simp; try with_reducible rfl)
    (try simp only [Act.put, List.setIfInBounds_toArray, List.set_cons_zero, List.set_cons_succ])
    refine wpAnyE_takeL (preMod _) 5 (v := ?_) rfl (by kernel_rfl) (by kernel_rfl) (by kernel_rfl) (fun _ _ _ h => h) (Or.inl ⟨by rfl, ?_⟩) ?_
    rotate_left; (intro W hW; (try dsimp only at hW); go_simp; try with_reducible rfl)
    (try simp only [Act.put, List.setIfInBounds_toArray, List.set_cons_zero, List.set_cons_succ])
    refine wpAnyE_takeL (preMod _) 6 (v := ?_) rfl (by kernel_rfl) (by kernel_rfl) (by kernel_rfl) (fun _ _ _ h => h) (Or.inl ⟨by rfl, ?_⟩) ?_
    rotate_left; (intro W hW; (try dsimp only at hW); go_simp; try with_reducible rfl)
    (try simp only [Act.put, List.setIfInBounds_toArray, List.set_cons_zero, List.set_cons_succ])
    refine wpAnyE_takeL (preMod _) 7 (v := ?_) rfl (by kernel_rfl) (by kernel_rfl) (by kernel_rfl) (fun _ _ _ h => h) (Or.inl ⟨by rfl, ?_⟩) ?_
    rotate_left; (intro W hW; (try dsimp only at hW); go_simp; try with_reducible rfl)
    (try simp only [Act.put, List.setIfInBounds_toArray, List.set_cons_zero, List.set_cons_succ])
    refine wpAnyE_takeL (preMod _) 8 (v := ?_) rfl (by kernel_rfl) (by kernel_rfl) (by kernel_rfl) (fun _ _ _ h => h) (Or.inl ⟨by rfl, ?_⟩) ?_
    rotate_left; (intro W hW; (try dsimp only at hW); go_simp; try with_reducible rfl)
    (try simp only [Act.put, List.setIfInBounds_toArray, List.set_cons_zero, List.set_cons_succ])
    refine wpAnyE_takeL (preMod _) 9 (v := ?_) rfl (by kernel_rfl) (by kernel_rfl) (by kernel_rfl) (fun _ _ _ h => h) (Or.inl ⟨by rfl, ?_⟩) ?_
    rotate_left; (intro W hW; (try dsimp only at hW); go_simp; try with_reducible rfl)
    (try simp only [Act.put, List.setIfInBounds_toArray, List.set_cons_zero, List.set_cons_succ])
    refine wpAnyE_takeL (preMod _) 10 (v := ?_) rfl (by kernel_rfl) (by kernel_rfl) (by kernel_rfl) (fun _ _ _ h => h) (Or.inl ⟨by rfl, ?_⟩) ?_
    rotate_left; (intro W hW; (try dsimp only at hW); (have hc := hE W (hw0.trans hW); go_simp); try with_reducible rfl)
    (try simp only [Act.put, List.setIfInBounds_toArray, List.set_cons_zero, List.set_cons_succ])
    refine wpAnyE_takeL (preMod _) 11 (v := ?_) rfl (by kernel_rfl) (by kernel_rfl) (by kernel_rfl) (fun _ _ _ h => h) (Or.inl ⟨by rfl, ?_⟩) ?_
    rotate_left; (intro W hW; (try dsimp only at hW); go_simp; try with_reducible rfl)
    (try simp only [Act.put, List.setIfInBounds_toArray, List.set_cons_zero, List.set_cons_succ])
    refine wpAnyE_takeL (preMod _) 12 (v := ?_) rfl (by kernel_rfl) (by kernel_rfl) (by kernel_rfl) (fun _ _ _ h => h) (Or.inl ⟨by rfl, ?_⟩) ?_
    rotate_left; (intro W hW; (try dsimp only at hW); go_simp; try with_reducible rfl)
    (try simp only [Act.put, List.setIfInBounds_toArray, List.set_cons_zero, List.set_cons_succ])
    refine wpAnyE_takeL (preMod _) 13 (v := ?_) rfl (by kernel_rfl) (by kernel_rfl) (by kernel_rfl) (fun _ _ _ h => h) (Or.inl ⟨by rfl, ?_⟩) ?_
    rotate_left; (intro W hW; (try dsimp only at hW); go_simp; try with_reducible rfl)
    (try simp only [Act.put, List.setIfInBounds_toArray, List.set_cons_zero, List.set_cons_succ])
    refine wpAnyE_takeL (preMod _) 14 (v := ?_) rfl (by kernel_rfl) (by kernel_rfl) (by kernel_rfl) (fun _ _ _ h => h) (Or.inl ⟨by rfl, ?_⟩) ?_
    rotate_left; (intro W hW; (try dsimp only at hW); go_simp; try with_reducible rfl)
    (try simp only [Act.put, List.setIfInBounds_toArray, List.set_cons_zero, List.set_cons_succ])
    refine wpAnyE_takeL (preMod _) 15 (v := ?_) rfl (by kernel_rfl) (by kernel_rfl) (by kernel_rfl) (fun _ _ _ h => h) (Or.inl ⟨by rfl, ?_⟩) ?_
    rotate_left; (intro W hW; (try dsimp only at hW); go_simp; try with_reducible rfl)
    (try simp only [Act.put, List.setIfInBounds_toArray, List.set_cons_zero, List.set_cons_succ])
    refine wpAnyE_takeL (preMod _) 16 (v := ?_) rfl (by kernel_rfl) (by kernel_rfl) (by kernel_rfl) (fun _ _ _ h => h) (Or.inl ⟨by rfl, ?_⟩) ?_
    rotate_left; (intro W hW; (try dsimp only at hW); go_simp; try with_reducible rfl)
    (try simp only [Act.put, List.setIfInBounds_toArray, List.set_cons_zero, List.set_cons_succ])
    refine wpAnyE_ready (rs := [17]) (by kernel_rfl) (by simp) ?_
    refine AllReadyE.consL rfl (fun K hK => ?_) AllReadyE.nil
    rw [if_pos (by rfl)]
    go_simp
    go_at_call 26
    refine HSL.out.mono ?_
    rintro e' w8 ⟨rfl, hm8⟩
    have hmE := hm8
    have HKnew := Lib.hid (HK.out.mod (hw0.trans hm8)); clear HK; have HK := HKnew; clear HKnew
    clear hm8
    go_wp2_with fail
    refine hK.out _ _ (by first | exact hmE | exact Mod.refl _ _ | exact (Mod.refl _ _).alloc _) ?_
    clear hK
    (try simp only [Act.put, List.setIfInBounds_toArray, List.set_cons_zero, List.set_cons_succ])
    refine wpAnyE_takeL (preMod _) 18 (v := ?_) rfl (by kernel_rfl) (by kernel_rfl) (by kernel_rfl) (fun _ _ _ h => h) (Or.inl ⟨by rfl, ?_⟩) ?_
    rotate_left; (intro W hW; (try dsimp only at hW); go_simp; try with_reducible rfl)
    (try simp only [Act.put, List.setIfInBounds_toArray, List.set_cons_zero, List.set_cons_succ])
    refine wpAnyE_takeL (preMod _) 19 (v := ?_) rfl (by kernel_rfl) (by kernel_rfl) (by kernel_rfl) (fun _ _ _ h => h) (Or.inl ⟨by rfl, ?_⟩) ?_
    rotate_left; (intro W hW; (try dsimp only at hW); go_simp; try with_reducible rfl)
    (try simp only [Act.put, List.setIfInBounds_toArray, List.set_cons_zero, List.set_cons_succ])
    refine wpAnyE_done (by kernel_rfl) ?_ _
    clear HSL HE hE hw0 hy1 hyb
    go_wp2_with fail
    clear hmE
    generalize w8 = w9 at *
    have HLL : Hid (0 ≤ 1024) := Lib.hid (Nat.zero_le _)
    go_loopw [11] (fun s11 wr => s11 = .int .i64 0 ∧ Hid (KK w (.slice none 0 0) 0 (.slice none 0 0) (.slice none 0 0) [] wr)) (fun _ _ => 0)
    case atStart => exact ⟨rfl, HK⟩
    case round =>
      clear HK
      obtain ⟨rfl, HK⟩ := hrel
      go_wp2_with fail
      go_loopw [5, 12] (fun s5 s12 wr => ∃ (j n : Nat) (B : Option Addr) (c : Nat), s12 = .int .i64 (j : Int) ∧ s5 = .slice B n c ∧ j ≤ 20 ∧ n ≤ 1024 + j ∧ Hid (KK w (.slice B n c) n (.slice none 0 0) (.slice none 0 0) ([] : List GOp) wr)) (fun _ s _ => 20 - (intOf s).toNat)
      case atStart => exact ⟨0, _, _, _, rfl, rfl, by omega, by have := HLL.out; omega, HK⟩
      case round =>
        clear HK
        obtain ⟨j, n, B, c, rfl, rfl, hj, hn, HK⟩ := hrel
        by_cases hjl : j < 20
        · have HOC : Hid (OwnC wr (.slice B n c) n) := Lib.hid HK.out.1
          go_wp2_with (first | ((with_reducible refine wpList_buildSlice_op (o := ⟨-8, ⟨#[]⟩, ⟨#[]⟩, 0, GIdent.zero⟩) _ rfl ?hgd ?hx ?_); (case hgd => exact rfl); (case hx => exact rfl); intro g5 w10 hs5 hm5 hg5 hg6; have HS5 := Lib.hid hs5; have HM5 := Lib.hid hm5; have HO5 : Hid (OwnC w10 (.slice B n c) n) := Lib.hid (HK.out.mod hm5).1; clear hs5 hm5) | (at_builtin; refine wpList_append_c rfl _ _ rfl HO5.out rfl HS5.out rfl ?_ ?hz; intro A6 cap6 w11 ho6 hm6 HF6; have HO6 := Lib.hid ho6; have HM6 := Lib.hid hm6; clear ho6 hm6))
          case hz => omega
          have HK6 := Lib.hid ((HK.out.mod HM5.out).step HO6.out HM6.out (fun b hb => (HF6.out b hb).imp id (fun h => by omega)))
          go_roundw
          case rel => exact ⟨j + 1, n + 1, A6, cap6, by go_num, rfl, by omega, by omega, HK6⟩
          case measure => simp [intOf]; omega
        · obtain ⟨ga, hsa, _⟩ := HK.out.2.1.os
          obtain ⟨gb, hsb, _⟩ := HK.out.2.2.1.os
          have hsl := refSameList_any ([] : List GOp) ([] : List GOp) ga gb _ _ wr hsa hsb
          rw [decide_eq_true (rfl : ([] : List GOp) = ([] : List GOp))] at hsl
          have HSL := Lib.hid hsl
          clear hsl hsa hsb
          go_wp2_with fail
          refine HSL.out.mono ?_
          rintro e' w12 ⟨rfl, hm12⟩
          go_wp2_with fail
          go_ret
          exact ⟨rfl, HK.out.2.2.2.1.trans hm12⟩
end Go.Proofs.Ytdiplliemdogfaa
