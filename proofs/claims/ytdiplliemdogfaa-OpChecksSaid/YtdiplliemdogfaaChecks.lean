import Derived.Test.YtdiplliemdogfaaRef3
set_option linter.unusedVariables false
set_option linter.unusedSimpArgs false
set_option maxRecDepth 20000
set_option maxHeartbeats 1600000
namespace Go.Proofs.Ytdiplliemdogfaa
open Go.RowKit

theorem space_lit (w : World) {cs : Array Value} (h : cs.size = 37) : OpSpace (w.alloc (.cells cs 33)) w.heap.size := ⟨cs, Blk.new w _ _, h⟩
theorem OpSpace.alloc {w : World} {q : Nat} (h : OpSpace w q) (o : Obj) : OpSpace (w.alloc o) q := by
  obtain ⟨cs, hb, hs⟩ := h
  exact ⟨cs, hb.alloc o, hs⟩
theorem OpSpace.setOp {w : World} {q p : Nat} {o : GOp} (h : OpSpace w q) : OpSpace (World.setOp w p o) q := by
  obtain ⟨cs, hb, hs⟩ := h
  by_cases e : q = p
  · subst e
    exact ⟨_, OpSpace.blk ⟨cs, hb, hs⟩ o, by simp [GOp.cells_length]⟩
  · have hm : Mod [p] w (World.setOp w p o) := (Mod.refl [p] w).setOp p o (by simp)
    exact ⟨cs, hb.mod hm (by simpa using e), hs⟩
@[go_sem] theorem space_0 (w : World) (o : Obj) {cs : Array Value} (h : cs.size = 37) : OpSpace ((w.alloc (.cells cs 33)).alloc o) w.heap.size := (space_lit w h).alloc o
@[go_sem] theorem space_1 (w : World) (o : Obj) {cs : Array Value} (h : cs.size = 37) : OpSpace ((w.alloc o).alloc (.cells cs 33)) (w.heap.size + 1) := by
  have := space_lit (w.alloc o) h
  rwa [heap_size_alloc] at this
@[go_sem] theorem space_drew (w : World) (q : Nat) : OpSpace w.drew q = OpSpace w q := rfl
@[go_sem] theorem space_set {w : World} {q p : Nat} {o : GOp} (h : OpSpace w q) : OpSpace (World.setOp w p o) q := h.setOp
theorem Two.mk {w W : World} {g k1 k2 : Nat} {o1 o2 : GOp} (h1 : OpAt w g k1 o1) (h2 : OpAt w g k2 o2) (hm : Mod [] w W) : OpIn W g k1 ∧ opOf W g k1 = o1 ∧ OpIn W g k2 ∧ opOf W g k2 = o2 ∧ Mod [] w W := by
  have e1 := (op_in h1 hm (by simp)).in_
  have e2 := (op_in h2 hm (by simp)).in_
  exact ⟨e1.1, e1.2, e2.1, e2.2, hm⟩
theorem Two.held {w W : World} {g k1 k2 : Nat} {o1 o2 : GOp} (h : OpIn W g k1 ∧ opOf W g k1 = o1 ∧ OpIn W g k2 ∧ opOf W g k2 = o2 ∧ Mod [] w W) : Mod [] w W := h.2.2.2.2
theorem Two.fin {X : World} {a b : Nat} {o1 o2 : GOp} (ha : OpSpace X a) (hb : OpSpace X b) (hne : a ≠ b) : OpV (World.setOp (World.setOp X a o1) b o2) a o1 ∧ OpV (World.setOp (World.setOp X a o1) b o2) b o2 := by
  have h1 := OpSpace.blk ha o1
  have hb1 : OpSpace (World.setOp X a o1) b := hb.setOp
  have hm : Mod [b] (World.setOp X a o1) (World.setOp (World.setOp X a o1) b o2) := (Mod.refl [b] _).setOp b o2 (by simp)
  exact ⟨h1.mod hm (by simpa using hne), OpSpace.blk hb1 o2⟩
theorem Two.pack {wr W : World} {g k1 k2 a b : Nat} {o1 o2 : GOp} (h : OpIn W g k1 ∧ opOf W g k1 = o1 ∧ OpIn W g k2 ∧ opOf W g k2 = o2 ∧ Mod [] wr W) (hf : OpV W a o1 ∧ OpV W b o2) : Hid (Mod [] wr W) ∧ Hid (OpV W a o1) ∧ Hid (OpV W b o2) := ⟨Lib.hid h.2.2.2.2, Lib.hid hf.1, Lib.hid hf.2⟩
theorem Nine.mk {W W' : World} {a b : Nat} {o1 o2 : GOp} (h1 : OpAt W a 0 o1) (h2 : OpAt W b 0 o2) (hm : Mod [] W W') : OpIn W' a 0 ∧ opOf W' a 0 = o1 ∧ OpIn W' b 0 ∧ opOf W' b 0 = o2 ∧ W'.cell? ⟨a, 0, none⟩ = some (.int .i64 o1.kind) ∧ Mod [] W W' := by
  have k1 := op_in h1 hm (by simp)
  have e1 := k1.in_
  have e2 := (op_in h2 hm (by simp)).in_
  exact ⟨e1.1, e1.2, e2.1, e2.2, k1.kind, hm⟩
theorem Nine.held {W W' : World} {a b : Nat} {o1 o2 : GOp} (h : OpIn W' a 0 ∧ opOf W' a 0 = o1 ∧ OpIn W' b 0 ∧ opOf W' b 0 = o2 ∧ W'.cell? ⟨a, 0, none⟩ = some (.int .i64 o1.kind) ∧ Mod [] W W') : Mod [] W W' := h.2.2.2.2.2
theorem bump_ne {o : GOp} (h0 : -9223372036854775808 ≤ o.at_.op) (h1 : o.at_.op ≤ 9223372036854775807) : (o == ({ o with at_ := ⟨o.at_.node, wrap64 (o.at_.op + 1)⟩ } : GOp)) = false := by
  rw [beq_eq_false_iff_ne]
  intro e
  have e2 : o.at_.op = wrap64 (o.at_.op + 1) := congrArg (fun x : GOp => x.at_.op) e
  unfold wrap64 at e2
  omega
theorem checks_any (l : List GOp) (kind : Int) (g : Nat) (v : Value) (w : World) (hs : OS w g v l) (hn : ∀ o ∈ l, -9223372036854775808 ≤ o.at_.op ∧ o.at_.op ≤ 9223372036854775807) :
    Calls Try.prog 4 #[v, .int .i64 kind] w fun e w' => e = .returned (.bool true) ∧ Mod [] w w' := by
  obtain ⟨A, cap, rfl, hc, hm⟩ := hs.val
  have HS := Lib.hid hs; clear hs
  have HN := Lib.hid hn; clear hn
  go_enter Try.func4, Try.ntmps4
  go_wp2_with fail
  refine (check_any l g _ w HS.out).mono ?_
  rintro e' w1 ⟨rfl, hm1⟩
  have HS1 : Hid (OS w1 g _ l) := Lib.hid (HS.out.mod hm1 (by simp))
  have HM1 := Lib.hid hm1
  clear hm1
  go_wp2_with fail
  refine (refCheck_any l g _ w1 HS1.out).mono ?_
  rintro e' w2 ⟨rfl, hm2⟩
  have HS2 : Hid (OS w2 g _ l) := Lib.hid (HS1.out.mod hm2 (by simp))
  have HM2 := Lib.hid (HM1.out.trans hm2)
  clear hm2 HS1 HM1
  go_wp2_with (first | (go_at_call 13; refine (cell_any _ _).mono ?_; rintro e' w3 ⟨rfl, rfl⟩) | (go_at_call 14; refine (refCell_any _ _).mono ?_; rintro e' w3 ⟨rfl, rfl⟩))
  go_loopw [9] (fun s wr => ∃ j : Nat, s = .int .i64 (j : Int) ∧ j ≤ l.length ∧ Hid (OS wr g (.slice A l.length cap) l) ∧ Hid (Mod [] w wr)) (fun s _ => l.length - (intOf s).toNat)
  case atStart => exact ⟨0, rfl, by omega, HS2, HM2⟩
  case round =>
    obtain ⟨j, rfl, hj, HO, HM⟩ := hrel
    clear HS2 HM2
    by_cases hjl : j < l.length
    · obtain ⟨off, cap', hv', _, hmx, hgl, hit⟩ := HO.out.item (by omega)
      injection hv' with hA _ hcap
      subst hA
      subst hcap
      obtain ⟨m, hm1⟩ : ∃ m : Nat, m = l.length - 1 - j := ⟨_, rfl⟩
      have hml : m < l.length := by omega
      have hmj : ((l.length : Int) - 1 - (j : Int)) = (m : Int) := by omega
      have hln : l.length ≤ 9223372036854775807 := by unfold maxLen at hmx; omega
      have HJ := Lib.hid (hit j hjl)
      have HK := Lib.hid (hit m hml)
      have HGL := Lib.hid hgl
      have hd := Two.mk HJ.out HK.out (Mod.refl [] wr).drew
      have w3 : wrap64 ((l.length : Int) - 1) = (l.length : Int) - 1 := wrap64_small _ (by omega) (by omega)
      have w4 : wrap64 ((l.length : Int) - 1 - (j : Int)) = (m : Int) := by rw [hmj]; exact wrap64_small _ (by omega) (by omega)
      have w1 : IntKind.i64.wrap ((l.length : Int) - 1) = (l.length : Int) - 1 := by rw [IntKind.wrap_i64]; omega
      have w2 : IntKind.i64.wrap ((l.length : Int) - 1 - (j : Int)) = (m : Int) := by rw [IntKind.wrap_i64]; omega
      have w5 : IntKind.i64.wrap (m : Int) = (m : Int) := by rw [IntKind.wrap_i64]; omega
      have b1 : (0 : Int) ≤ (j : Int) := by omega
      have b2 : (j : Int) < (l.length : Int) := by omega
      have b3 : (0 : Int) ≤ (m : Int) := by omega
      have b4 : (m : Int) < (l.length : Int) := by omega
      clear hit hmx hm hc HS hgl hm1
      have hp0 : OpSpace ((wr.alloc (.cells #[.int .i64 0, .string ⟨#[]⟩, .string ⟨#[]⟩, .int .i64 0, .int .u8 0, .int .u8 0, .int .u8 0, .int .u8 0, .int .u8 0, .int .u8 0, .int .u8 0, .int .u8 0, .int .u8 0, .int .u8 0, .int .u8 0, .int .u8 0, .int .u8 0, .int .u8 0, .int .u8 0, .int .u8 0, .int .u8 0, .int .u8 0, .int .u8 0, .int .u8 0, .int .u8 0, .int .u8 0, .int .u8 0, .int .u8 0, .int .u8 0, .int .u8 0, .int .u8 0, .int .u8 0, .int .u8 0, .int .u8 0, .int .u8 0, .int .u8 0, .int .i64 0] 33)).alloc (.cells #[.int .i64 0, .string ⟨#[]⟩, .string ⟨#[]⟩, .int .i64 0, .int .u8 0, .int .u8 0, .int .u8 0, .int .u8 0, .int .u8 0, .int .u8 0, .int .u8 0, .int .u8 0, .int .u8 0, .int .u8 0, .int .u8 0, .int .u8 0, .int .u8 0, .int .u8 0, .int .u8 0, .int .u8 0, .int .u8 0, .int .u8 0, .int .u8 0, .int .u8 0, .int .u8 0, .int .u8 0, .int .u8 0, .int .u8 0, .int .u8 0, .int .u8 0, .int .u8 0, .int .u8 0, .int .u8 0, .int .u8 0, .int .u8 0, .int .u8 0, .int .i64 0] 33)).drew wr.heap.size := space_0 wr _ rfl
      have hp1 : OpSpace ((wr.alloc (.cells #[.int .i64 0, .string ⟨#[]⟩, .string ⟨#[]⟩, .int .i64 0, .int .u8 0, .int .u8 0, .int .u8 0, .int .u8 0, .int .u8 0, .int .u8 0, .int .u8 0, .int .u8 0, .int .u8 0, .int .u8 0, .int .u8 0, .int .u8 0, .int .u8 0, .int .u8 0, .int .u8 0, .int .u8 0, .int .u8 0, .int .u8 0, .int .u8 0, .int .u8 0, .int .u8 0, .int .u8 0, .int .u8 0, .int .u8 0, .int .u8 0, .int .u8 0, .int .u8 0, .int .u8 0, .int .u8 0, .int .u8 0, .int .u8 0, .int .u8 0, .int .i64 0] 33)).alloc (.cells #[.int .i64 0, .string ⟨#[]⟩, .string ⟨#[]⟩, .int .i64 0, .int .u8 0, .int .u8 0, .int .u8 0, .int .u8 0, .int .u8 0, .int .u8 0, .int .u8 0, .int .u8 0, .int .u8 0, .int .u8 0, .int .u8 0, .int .u8 0, .int .u8 0, .int .u8 0, .int .u8 0, .int .u8 0, .int .u8 0, .int .u8 0, .int .u8 0, .int .u8 0, .int .u8 0, .int .u8 0, .int .u8 0, .int .u8 0, .int .u8 0, .int .u8 0, .int .u8 0, .int .u8 0, .int .u8 0, .int .u8 0, .int .u8 0, .int .u8 0, .int .i64 0] 33)).drew (wr.heap.size + 1) := space_1 wr _ rfl
      have hp2 : OpSpace (World.setOp ((wr.alloc (.cells #[.int .i64 0, .string ⟨#[]⟩, .string ⟨#[]⟩, .int .i64 0, .int .u8 0, .int .u8 0, .int .u8 0, .int .u8 0, .int .u8 0, .int .u8 0, .int .u8 0, .int .u8 0, .int .u8 0, .int .u8 0, .int .u8 0, .int .u8 0, .int .u8 0, .int .u8 0, .int .u8 0, .int .u8 0, .int .u8 0, .int .u8 0, .int .u8 0, .int .u8 0, .int .u8 0, .int .u8 0, .int .u8 0, .int .u8 0, .int .u8 0, .int .u8 0, .int .u8 0, .int .u8 0, .int .u8 0, .int .u8 0, .int .u8 0, .int .u8 0, .int .i64 0] 33)).alloc (.cells #[.int .i64 0, .string ⟨#[]⟩, .string ⟨#[]⟩, .int .i64 0, .int .u8 0, .int .u8 0, .int .u8 0, .int .u8 0, .int .u8 0, .int .u8 0, .int .u8 0, .int .u8 0, .int .u8 0, .int .u8 0, .int .u8 0, .int .u8 0, .int .u8 0, .int .u8 0, .int .u8 0, .int .u8 0, .int .u8 0, .int .u8 0, .int .u8 0, .int .u8 0, .int .u8 0, .int .u8 0, .int .u8 0, .int .u8 0, .int .u8 0, .int .u8 0, .int .u8 0, .int .u8 0, .int .u8 0, .int .u8 0, .int .u8 0, .int .u8 0, .int .i64 0] 33)).drew wr.heap.size l[j]) (wr.heap.size + 1) := OpSpace.setOp (space_1 wr _ rfl)
      have hp3 : OpSpace (World.setOp ((wr.alloc (.cells #[.int .i64 0, .string ⟨#[]⟩, .string ⟨#[]⟩, .int .i64 0, .int .u8 0, .int .u8 0, .int .u8 0, .int .u8 0, .int .u8 0, .int .u8 0, .int .u8 0, .int .u8 0, .int .u8 0, .int .u8 0, .int .u8 0, .int .u8 0, .int .u8 0, .int .u8 0, .int .u8 0, .int .u8 0, .int .u8 0, .int .u8 0, .int .u8 0, .int .u8 0, .int .u8 0, .int .u8 0, .int .u8 0, .int .u8 0, .int .u8 0, .int .u8 0, .int .u8 0, .int .u8 0, .int .u8 0, .int .u8 0, .int .u8 0, .int .u8 0, .int .i64 0] 33)).alloc (.cells #[.int .i64 0, .string ⟨#[]⟩, .string ⟨#[]⟩, .int .i64 0, .int .u8 0, .int .u8 0, .int .u8 0, .int .u8 0, .int .u8 0, .int .u8 0, .int .u8 0, .int .u8 0, .int .u8 0, .int .u8 0, .int .u8 0, .int .u8 0, .int .u8 0, .int .u8 0, .int .u8 0, .int .u8 0, .int .u8 0, .int .u8 0, .int .u8 0, .int .u8 0, .int .u8 0, .int .u8 0, .int .u8 0, .int .u8 0, .int .u8 0, .int .u8 0, .int .u8 0, .int .u8 0, .int .u8 0, .int .u8 0, .int .u8 0, .int .u8 0, .int .i64 0] 33)).drew (wr.heap.size + 1) l[j]) wr.heap.size := OpSpace.setOp (space_0 wr _ rfl)
      dsimp only at hp0 hp1 hp2 hp3
      go_wp2_with fail
      go_region_held3 (fun W => OpIn W g (off + j * 37) ∧ opOf W g (off + j * 37) = l[j] ∧ OpIn W g (off + m * 37) ∧ opOf W g (off + m * 37) = l[m] ∧ Mod [] wr W) ((first | exact hd | assumption | exact Two.mk HJ.out HK.out (Mod.alloc (Two.held (by assumption)) _) | exact Two.mk HJ.out HK.out (Mod.setOp (Two.held (by assumption)) _ _ (.inr (by simp))) | exact Two.mk HJ.out HK.out (Mod.setOp (Two.held (by assumption)) _ _ (.inr (by omega))))) ((first | (go_at_call 0; fail)))
      · have hpk := Two.pack (by assumption) (Two.fin (o1 := l[j]) (o2 := l[m]) hp0 hp1 (by omega))
        clear hp0 hp1 hp2 hp3
        generalize World.setOp (World.setOp _ _ l[j]) _ l[m] = W at *
        obtain ⟨HMW, HVA, HVB⟩ := hpk
        have hq0 := HVA.out.lt
        have hq1 := HVB.out.lt
        have HA : Hid (OpAt W wr.heap.size 0 l[j]) := Lib.hid (CellsAt.of_blk HVA.out)
        have HB : Hid (OpAt W (wr.heap.size + 1) 0 l[m]) := Lib.hid (CellsAt.of_blk HVB.out)
        have hd9 := Nine.mk HA.out HB.out (Mod.refl [] W).drew
        clear hd w1 w2 w3 w4 w5 b1 b2 b3 b4 hmj
        go_wp2_with fail
        go_region_held3 (fun V => OpIn V wr.heap.size 0 ∧ opOf V wr.heap.size 0 = l[j] ∧ OpIn V (wr.heap.size + 1) 0 ∧ opOf V (wr.heap.size + 1) 0 = l[m] ∧ V.cell? ⟨wr.heap.size, 0, none⟩ = some (.int .i64 l[j].kind) ∧ Mod [] W V) ((first | exact hd9 | assumption | exact Nine.mk HA.out HB.out ((Nine.held (by assumption)).trans (by assumption)))) ((first | (go_at_call 13; refine (cell_any _ _).mono ?_; rintro e' w3 ⟨rfl, rfl⟩) | (go_at_call 14; refine (refCell_any _ _).mono ?_; rintro e' w3 ⟨rfl, rfl⟩) | (go_at_call 15; refine (same_any _ _ _).mono ?_; rintro e' w3 ⟨rfl, hm5⟩) | (go_at_call 16; refine (refSame_any _ _ _).mono ?_; rintro e' w3 ⟨rfl, hm5⟩)))
        have hm9 := Nine.held (W := W) (a := wr.heap.size) (b := (wr.heap.size + 1)) (o1 := l[j]) (o2 := l[m]) (by assumption)
        have HA9 : Hid (OpV w3 wr.heap.size l[j]) := Lib.hid (HVA.out.mod hm9 (by simp))
        have HB9 : Hid (Blk w3 (wr.heap.size + 1) 33 l[m].cells.toArray) := Lib.hid (HVB.out.mod hm9 (by simp))
        have HO9 : Hid (OS w3 g _ l) := Lib.hid (HO.out.mod (HMW.out.trans hm9) (by simp))
        have HM9 : Hid (Mod [] w w3) := Lib.hid (HM.out.trans (HMW.out.trans hm9))
        have HS9 := Lib.hid (HMW.out.trans hm9).size
        have HL9 : Hid (OpAt w3 wr.heap.size 0 l[j]) := Lib.hid (CellsAt.of_blk HA9.out)
        have HNE := Lib.hid (bump_ne (HN.out l[j] (List.getElem_mem _)).1 (HN.out l[j] (List.getElem_mem _)).2)
        clear hd9 hm9
        go_wp2_with (first | ((with_reducible refine wpList_load_op _ rfl ?hgd HL9.out ?hx ?_); (case hgd => exact rfl); (case hx => exact rfl)) | ((with_reducible refine wpList_store_op (o := l[j]) _ _ rfl ?hgd ?hx ?hy HB9.out ?hold ?_); (case hgd => exact rfl); (case hx => exact rfl); (case hy => exact rfl); (case hold => rw [List.size_toArray, GOp.cells_length]); intro w7 hv7 hm7; dsimp only [Act.put]; have c36 := OpAt.op (show OpAt w7 (wr.heap.size + 1) 0 l[j] from CellsAt.of_blk hv7); rw [Nat.zero_add] at c36; have f36 := Blk.frozen hv7 36; have hv8 := Blk.set_ hv7 36 (.int .i64 (wrap64 (l[j].at_.op + 1))); rw [GOp.set36] at hv8; have hms : Mod [(wr.heap.size + 1)] w7 (w7.setCell ⟨(wr.heap.size + 1), 36, none⟩ (.int .i64 (wrap64 (l[j].at_.op + 1)))) := (Mod.refl [(wr.heap.size + 1)] w7).setCell _ (by simp) _; have HB8 := Lib.hid (show OpAt _ (wr.heap.size + 1) 0 _ from CellsAt.of_blk hv8); have HA8 : Hid (OpAt (w7.setCell ⟨(wr.heap.size + 1), 36, none⟩ (.int .i64 (wrap64 (l[j].at_.op + 1)))) wr.heap.size 0 l[j]) := Lib.hid (op_in (op_in HL9.out hm7 (by simp)) hms (by simp)); have hm78 := hm7.trans hms; have HO8 := Lib.hid (HO9.out.mod hm78 (by have := HGL.out; simp; omega)); have HM8 : Hid (Mod [] w (w7.setCell ⟨(wr.heap.size + 1), 36, none⟩ (.int .i64 (wrap64 (l[j].at_.op + 1))))) := Lib.hid (HM9.out.then hm78 (by have := HM.out.size; simp; omega)); clear hv7 hm7 hv8 hms hm78) | ((with_reducible refine wpList_load_op _ rfl ?hgd HA8.out ?hx ?_); (case hgd => exact rfl); (case hx => exact rfl)) | ((with_reducible refine wpList_load_op _ rfl ?hgd HB8.out ?hx ?_); (case hgd => exact rfl); (case hx => exact rfl)) | (go_at_call 15; refine (same_any _ _ _).mono ?_; rintro e' w9 ⟨rfl, hm10⟩; rw [HNE.out]; have HO10 := Lib.hid (HO8.out.mod hm10 (by simp)); have HM10 := Lib.hid (HM8.out.trans hm10); clear hm10))
        go_roundw
        case rel => exact ⟨j + 1, by go_num, by omega, HO10, HM10⟩
        case measure => simp [intOf]; omega
      · have hpk := Two.pack (by assumption) (Two.fin (o1 := l[j]) (o2 := l[m]) hp1 hp0 (by omega))
        clear hp0 hp1 hp2 hp3
        generalize World.setOp (World.setOp _ _ l[j]) _ l[m] = W at *
        obtain ⟨HMW, HVA, HVB⟩ := hpk
        have hq0 := HVA.out.lt
        have hq1 := HVB.out.lt
        have HA : Hid (OpAt W (wr.heap.size + 1) 0 l[j]) := Lib.hid (CellsAt.of_blk HVA.out)
        have HB : Hid (OpAt W wr.heap.size 0 l[m]) := Lib.hid (CellsAt.of_blk HVB.out)
        have hd9 := Nine.mk HA.out HB.out (Mod.refl [] W).drew
        clear hd w1 w2 w3 w4 w5 b1 b2 b3 b4 hmj
        go_wp2_with fail
        go_region_held3 (fun V => OpIn V (wr.heap.size + 1) 0 ∧ opOf V (wr.heap.size + 1) 0 = l[j] ∧ OpIn V wr.heap.size 0 ∧ opOf V wr.heap.size 0 = l[m] ∧ V.cell? ⟨(wr.heap.size + 1), 0, none⟩ = some (.int .i64 l[j].kind) ∧ Mod [] W V) ((first | exact hd9 | assumption | exact Nine.mk HA.out HB.out ((Nine.held (by assumption)).trans (by assumption)))) ((first | (go_at_call 13; refine (cell_any _ _).mono ?_; rintro e' w3 ⟨rfl, rfl⟩) | (go_at_call 14; refine (refCell_any _ _).mono ?_; rintro e' w3 ⟨rfl, rfl⟩) | (go_at_call 15; refine (same_any _ _ _).mono ?_; rintro e' w3 ⟨rfl, hm5⟩) | (go_at_call 16; refine (refSame_any _ _ _).mono ?_; rintro e' w3 ⟨rfl, hm5⟩)))
        have hm9 := Nine.held (W := W) (a := (wr.heap.size + 1)) (b := wr.heap.size) (o1 := l[j]) (o2 := l[m]) (by assumption)
        have HA9 : Hid (OpV w3 (wr.heap.size + 1) l[j]) := Lib.hid (HVA.out.mod hm9 (by simp))
        have HB9 : Hid (Blk w3 wr.heap.size 33 l[m].cells.toArray) := Lib.hid (HVB.out.mod hm9 (by simp))
        have HO9 : Hid (OS w3 g _ l) := Lib.hid (HO.out.mod (HMW.out.trans hm9) (by simp))
        have HM9 : Hid (Mod [] w w3) := Lib.hid (HM.out.trans (HMW.out.trans hm9))
        have HS9 := Lib.hid (HMW.out.trans hm9).size
        have HL9 : Hid (OpAt w3 (wr.heap.size + 1) 0 l[j]) := Lib.hid (CellsAt.of_blk HA9.out)
        have HNE := Lib.hid (bump_ne (HN.out l[j] (List.getElem_mem _)).1 (HN.out l[j] (List.getElem_mem _)).2)
        clear hd9 hm9
        go_wp2_with (first | ((with_reducible refine wpList_load_op _ rfl ?hgd HL9.out ?hx ?_); (case hgd => exact rfl); (case hx => exact rfl)) | ((with_reducible refine wpList_store_op (o := l[j]) _ _ rfl ?hgd ?hx ?hy HB9.out ?hold ?_); (case hgd => exact rfl); (case hx => exact rfl); (case hy => exact rfl); (case hold => rw [List.size_toArray, GOp.cells_length]); intro w7 hv7 hm7; dsimp only [Act.put]; have c36 := OpAt.op (show OpAt w7 wr.heap.size 0 l[j] from CellsAt.of_blk hv7); rw [Nat.zero_add] at c36; have f36 := Blk.frozen hv7 36; have hv8 := Blk.set_ hv7 36 (.int .i64 (wrap64 (l[j].at_.op + 1))); rw [GOp.set36] at hv8; have hms : Mod [wr.heap.size] w7 (w7.setCell ⟨wr.heap.size, 36, none⟩ (.int .i64 (wrap64 (l[j].at_.op + 1)))) := (Mod.refl [wr.heap.size] w7).setCell _ (by simp) _; have HB8 := Lib.hid (show OpAt _ wr.heap.size 0 _ from CellsAt.of_blk hv8); have HA8 : Hid (OpAt (w7.setCell ⟨wr.heap.size, 36, none⟩ (.int .i64 (wrap64 (l[j].at_.op + 1)))) (wr.heap.size + 1) 0 l[j]) := Lib.hid (op_in (op_in HL9.out hm7 (by simp)) hms (by simp)); have hm78 := hm7.trans hms; have HO8 := Lib.hid (HO9.out.mod hm78 (by have := HGL.out; simp; omega)); have HM8 : Hid (Mod [] w (w7.setCell ⟨wr.heap.size, 36, none⟩ (.int .i64 (wrap64 (l[j].at_.op + 1))))) := Lib.hid (HM9.out.then hm78 (by have := HM.out.size; simp; omega)); clear hv7 hm7 hv8 hms hm78) | ((with_reducible refine wpList_load_op _ rfl ?hgd HA8.out ?hx ?_); (case hgd => exact rfl); (case hx => exact rfl)) | ((with_reducible refine wpList_load_op _ rfl ?hgd HB8.out ?hx ?_); (case hgd => exact rfl); (case hx => exact rfl)) | (go_at_call 15; refine (same_any _ _ _).mono ?_; rintro e' w9 ⟨rfl, hm10⟩; rw [HNE.out]; have HO10 := Lib.hid (HO8.out.mod hm10 (by simp)); have HM10 := Lib.hid (HM8.out.trans hm10); clear hm10))
        go_roundw
        case rel => exact ⟨j + 1, by go_num, by omega, HO10, HM10⟩
        case measure => simp [intOf]; omega
    · have hje : j = l.length := by omega
      subst hje
      go_wp2_with fail
      refine (fixed_any _).mono ?_
      rintro e' w3 ⟨rfl, hm3⟩
      have HM3 := Lib.hid (HM.out.trans hm3)
      clear hm3
      go_wp2
      go_ret
      exact ⟨rfl, HM3.out⟩
end Go.Proofs.Ytdiplliemdogfaa
