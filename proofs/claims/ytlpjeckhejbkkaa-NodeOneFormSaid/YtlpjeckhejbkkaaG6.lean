import Derived.Test.YtlpjeckhejbkkaaG5
import Derived.Laws.CopyOwn
section
set_option linter.unusedVariables false
set_option linter.unusedSimpArgs false
set_option maxRecDepth 20000
set_option maxHeartbeats 800000
namespace Go.Proofs.Ytlpjeckhejbkkaa
open Go.RowKit

/-! ### SHA-256, as the walks compute it -/
abbrev uv (x : Int) : Value := .int .u32 x
def rotr (x : Int) (n : Nat) : Int := bits .or .u32 (x / 2 ^ n) (x * 2 ^ (32 - n) % 4294967296)
def shaK : List Int := [1116352408, 1899447441, 3049323471, 3921009573, 961987163, 1508970993, 2453635748, 2870763221, 3624381080, 310598401, 607225278, 1426881987, 1925078388, 2162078206, 2614888103, 3248222580, 3835390401, 4022224774, 264347078, 604807628, 770255983, 1249150122, 1555081692, 1996064986, 2554220882, 2821834349, 2952996808, 3210313671, 3336571891, 3584528711, 113926993, 338241895, 666307205, 773529912, 1294757372, 1396182291, 1695183700, 1986661051, 2177026350, 2456956037, 2730485921, 2820302411, 3259730800, 3345764771, 3516065817, 3600352804, 4094571909, 275423344, 430227734, 506948616, 659060556, 883997877, 958139571, 1322822218, 1537002063, 1747873779, 1955562222, 2024104815, 2227730452, 2361852424, 2428436474, 2756734187, 3204031479, 3329325298]
def kc (t : Nat) : Int := shaK.getD t 0
structure St8 where
  a : Int
  b : Int
  c : Int
  d : Int
  e : Int
  f : Int
  g : Int
  h : Int
def St8.cells (s : St8) : List Value := [uv s.a, uv s.b, uv s.c, uv s.d, uv s.e, uv s.f, uv s.g, uv s.h]
def shaIV : St8 := ⟨1779033703, 3144134277, 1013904242, 2773480762, 1359893119, 2600822924, 528734635, 1541459225⟩
theorem rtW8 : RowT Try.prog 138 8 := ⟨_, Try.underlying138, rfl, by kernel_rfl⟩
theorem rtW64 : RowT Try.prog 153 64 := ⟨_, Try.underlying153, rfl, by kernel_rfl⟩
theorem turned_any (x : Int) (n : Nat) (hn : n ≤ 31) (w : World) : Calls Try.prog 90 #[.int .u32 x, .int .i64 n] w fun e w' => e = .returned (.int .u32 (rotr x n)) ∧ ∃ k, w.drewN k = w' := by
  have h1 : 0 ≤ (n : Int) := by omega
  have h2 : (n : Int) ≤ 32 := by omega
  have h3 : (0 : Int) ≤ 32 - (n : Int) := by omega
  have h4 : IntKind.i64.wrap (32 - (n : Int)) = 32 - (n : Int) := IntWalk.i64_in _ (by omega)
  go_enter Try.func90, Try.ntmps90
  go_wp2
  go_quiet (fail)
  go_wp2
  go_ret
  exact ⟨rfl, _, rfl⟩
theorem wpList_buildC {P : Program} {ops : Array Oper} {rest : List Oper} {op : Oper} {a : Act} {w : World} {Q : Exit → Act → World → Prop} {t : TypeId} {parts : Array (Nat × Operand)} {vals : Array (Nat × Value)} {cells : Array Value} (ho : op.op = .build t parts) (hgd : Region.wanted op (yielded ops a.tmps) = true)
    (hv : parts.map (fun p => (p.1, a.eval p.2)) = vals) (hb : P.built t vals.toList = some cells) (h : wpList P ops Q rest (a.put op.dst (.agg cells)) w) : wpList P ops Q (op :: rest) a w := by
  refine BigFrame.wpList_want hgd fun K hK => ?_
  have hr := run_build (P := P) w t vals cells hb
  unfold Oper.wp execOp
  simp only [ho]
  have e : (parts.map fun x => match x with | (i, o) => (i, a.eval o)) = vals := hv
  simp only [e, Sem.run_bind, hr, Result.andThen_ok, Sem.run_pure]
  exact hK _ _ h
def shaKv : Array (Nat × Value) := (shaK.zipIdx.map fun p => (p.2, uv p.1)).toArray
theorem builtK : Try.prog.built 153 shaKv.toList = some (shaK.map uv).toArray := by kernel_rfl
theorem begins_any (w : World) : Calls Try.prog 79 #[] w fun e w' => e = .returned (.agg shaIV.cells.toArray) ∧ Mod [] w w' := by
  go_enter Try.func79, Try.ntmps79
  go_wp2
  exact bodyPost_ret (results_row rtW8 rfl rfl (Blk.new w _ shaIV.cells.toArray) rfl) rfl ⟨rfl, (Mod.refl [] w).alloc _⟩
theorem uv_one (l : List Int) : ∀ u ∈ l.map uv, u.oneCell' = true := by
  intro u hu
  obtain ⟨x, _, rfl⟩ := List.mem_map.1 hu
  rfl
theorem shaK_len : (shaK.map uv).length = 64 := by decide
theorem rounds_any (w : World) : Calls Try.prog 89 #[] w fun e w' => e = .returned (.agg (shaK.map uv).toArray) ∧ Mod [] w w' := by
  have hb := builtK
  go_enter Try.func89, Try.ntmps89
  go_wp2_with (first | ((with_reducible refine wpList_buildC (vals := shaKv) (cells := (shaK.map uv).toArray) rfl ?hgd ?hv builtK ?_); (case hgd => exact rfl); (case hv => exact rfl)) | ((with_reducible refine wpList_store_blk rtW64 _ _ rfl ?hgd ?hx ?hy (Blk.new _ _ _) shaK_len ?hold (uv_one _) ?_); (case hgd => exact rfl); (case hx => exact rfl); (case hy => exact rfl); (case hold => exact rfl); intro w1 hb1 hm1; have HB1 := Lib.hid hb1; have HM1 : Hid (Mod [] w w1) := Lib.hid (((Mod.refl [] w).alloc _).then hm1 (by simp)); clear hb1 hm1))
  exact bodyPost_ret (results_row rtW64 rfl rfl HB1.out (by simpa using shaK_len)) rfl ⟨rfl, HM1.out⟩
end Go.Proofs.Ytlpjeckhejbkkaa
end

section
set_option linter.unusedVariables false
set_option linter.unusedSimpArgs false
set_option maxRecDepth 20000
set_option maxHeartbeats 3200000
namespace Go.Proofs.Ytlpjeckhejbkkaa
open Go.RowKit

/-! ### a piece of 64 bytes -/
def W64 (w : World) (q : Nat) (f : Nat → Int) (t : Nat) : Prop := ∃ cs : Array Value, Blk w q 153 cs ∧ cs.size = 64 ∧ ∀ i, i < t → cs[i]? = some (uv (f i))
theorem zeroW64_run (w : World) : (zeroValue 153).run Try.prog w = .ok (.agg ((List.replicate 64 (0 : Int)).map uv).toArray) w := by kernel_rfl
theorem zeroW8_run (w : World) : (zeroValue 138).run Try.prog w = .ok (.agg ((List.replicate 8 (0 : Int)).map uv).toArray) w := by kernel_rfl
/-- E: nothing changes but a block, and of it nothing below a place -/
def EW (q t : Nat) (w w' : World) : Prop := Mod [q] w w' ∧ ∀ i, i < t → w'.cell? ⟨q, i, none⟩ = w.cell? ⟨q, i, none⟩
theorem preEW (q t : Nat) : PreE (EW q t) := ⟨fun w => ⟨Mod.refl _ w, fun _ _ => rfl⟩, fun _ _ _ h k => ⟨h.1.trans k.1, fun i hi => (k.2 i hi).trans (h.2 i hi)⟩⟩
theorem EW.of {q t : Nat} {w w' : World} (h : Mod [] w w') (hq : q < w.heap.size) : EW q t w w' := ⟨h.mono (by simp), fun i _ => h.cell (p := ⟨q, i, none⟩) hq (by simp)⟩
structure PcS (w : World) (q2 q4 q5 q6 : Nat) (s : St8) (wr : World) : Prop where
  b2 : Blk wr q2 138 s.cells.toArray
  b4 : Blk wr q4 138 ((List.replicate 8 (0 : Int)).map uv).toArray
  b5 : Blk wr q5 153 (shaK.map uv).toArray
  md : Mod [] w wr
  ne : w.heap.size ≤ q6 ∧ w.heap.size ≤ q4 ∧ q2 ≠ q6 ∧ q4 ≠ q6 ∧ q5 ≠ q6 ∧ q6 < wr.heap.size ∧ q4 < wr.heap.size ∧ q2 ≠ q4
theorem PcS.mod {w wr w' : World} {q2 q4 q5 q6 : Nat} {s : St8} (h : PcS w q2 q4 q5 q6 s wr) (hm : Mod [q6] wr w') : PcS w q2 q4 q5 q6 s w' :=
  ⟨h.b2.mod hm (by have := h.ne; simp; omega), h.b4.mod hm (by have := h.ne; simp; omega), h.b5.mod hm (by have := h.ne; simp; omega), h.md.then hm (by have := h.ne; simp; omega), by have := h.ne; have := hm.size; omega⟩
def sha_b (b : Bytes) (i : Nat) : Int := ((b.getD i 0).toNat : Int)
abbrev w32 (x : Int) : Int := IntKind.u32.wrap x
def word4 (x0 x1 x2 x3 : Int) : Int := bits .or .u32 (bits .or .u32 (bits .or .u32 (w32 (w32 x0 * 16777216)) (w32 (w32 x1 * 65536))) (w32 (w32 x2 * 256))) (w32 x3)
def sig0 (x : Int) : Int := bits .xor .u32 (bits .xor .u32 (rotr x 7) (rotr x 18)) (x / 8)
def sig1 (x : Int) : Int := bits .xor .u32 (bits .xor .u32 (rotr x 17) (rotr x 19)) (x / 1024)
def nextW (b : Bytes) (t : Nat) (l : List Int) : Int :=
  if t < 16 then word4 (sha_b b (4 * t)) (sha_b b (4 * t + 1)) (sha_b b (4 * t + 2)) (sha_b b (4 * t + 3))
  else w32 (w32 (w32 (l.getD (t - 16) 0 + sig0 (l.getD (t - 15) 0)) + l.getD (t - 7) 0) + sig1 (l.getD (t - 2) 0))
def schedL (b : Bytes) : Nat → List Int
  | 0 => []
  | t + 1 => schedL b t ++ [nextW b t (schedL b t)]
def sched (b : Bytes) (t : Nat) : Int := nextW b t (schedL b t)
theorem schedL_len (b : Bytes) : ∀ t, (schedL b t).length = t
  | 0 => rfl
  | t + 1 => by rw [schedL, List.length_append, schedL_len b t]; rfl
theorem schedL_get (b : Bytes) : ∀ t i, i < t → (schedL b t).getD i 0 = sched b i
  | t + 1, i, h => by
    rw [schedL]
    by_cases hi : i = t
    · subst hi
      rw [List.getD_eq_getElem?_getD, List.getElem?_append_right (by rw [schedL_len]; omega), schedL_len]
      simp [sched]
    · rw [List.getD_eq_getElem?_getD, List.getElem?_append_left (by rw [schedL_len]; omega), ← List.getD_eq_getElem?_getD]
      exact schedL_get b t i (by omega)
theorem sched_lo (b : Bytes) (t : Nat) (h : t < 16) : sched b t = word4 (sha_b b (4 * t)) (sha_b b (4 * t + 1)) (sha_b b (4 * t + 2)) (sha_b b (4 * t + 3)) := by
  rw [sched, nextW, if_pos h]
theorem sched_hi (b : Bytes) (t : Nat) (h : 16 ≤ t) : sched b t = w32 (w32 (w32 (sched b (t - 16) + sig0 (sched b (t - 15))) + sched b (t - 7)) + sig1 (sched b (t - 2))) := by
  rw [sched, nextW, if_neg (by omega), schedL_get _ _ _ (by omega), schedL_get _ _ _ (by omega), schedL_get _ _ _ (by omega), schedL_get _ _ _ (by omega)]
theorem wpList_store_w64 {ops : Array Oper} {rest : List Oper} {op : Oper} {a : Act} {w : World} {Q : Exit → Act → World → Prop} (x y : Operand) (ho : op.op = .store 137 x y) (hgd : Region.wanted op (yielded ops a.tmps) = true)
    {q t : Nat} {f : Nat → Int} {z : Int} (hx : a.eval x = .pointer (some ⟨q, t, none⟩)) (hy : a.eval y = uv z) (hw : W64 w q f t) (ht : t < 64) (hz : z = f t)
    (h : ∀ w', W64 w' q f (t + 1) → Mod [q] w w' → wpList Try.prog ops Q rest (a.put op.dst undef) w') : wpList Try.prog ops Q (op :: rest) a w := by
  obtain ⟨cs, hb, hs, hc⟩ := hw
  refine BigFrame.wpList_want hgd fun K hK => ?_
  have hcell : w.cell? ⟨q, t, none⟩ = some cs[t] := by rw [hb.cell]; exact Array.getElem?_eq_getElem (by omega)
  have hfr : w.frozen? ⟨q, t, none⟩ = false := hb.frozen _
  unfold Oper.wp execOp
  simp only [ho, hx, hy]
  go_simp
  subst hz
  refine hK _ _ (h _ ⟨_, hb.set_ t (uv (f t)), by simpa using hs, fun i hi => ?_⟩ ?_)
  · show (cs.setIfInBounds t (uv (f t)))[i]? = some (uv (f i))
    rw [Array.getElem?_setIfInBounds]
    by_cases hit : t = i
    · subst hit; simp [hs, ht]
    · rw [if_neg hit]; exact hc i (by omega)
  · exact (Mod.refl [q] w).setCell _ (by simp) _
theorem W64.mod {w w' : World} {q t : Nat} {f : Nat → Int} (h : W64 w q f t) (hm : Mod [] w w') : W64 w' q f t := by
  obtain ⟨cs, hb, hs, hc⟩ := h
  exact ⟨cs, hb.mod hm (by simp), hs, hc⟩
theorem W64.cell {w : World} {q t : Nat} {f : Nat → Int} (h : W64 w q f t) {i : Nat} (hi : i < t) : w.cell? ⟨q, i, none⟩ = some (uv (f i)) := by
  obtain ⟨cs, hb, hs, hc⟩ := h
  rw [hb.cell]; exact hc i hi
theorem W64.lt {w : World} {q t : Nat} {f : Nat → Int} (h : W64 w q f t) : q < w.heap.size := by
  obtain ⟨cs, hb, hs, hc⟩ := h
  exact hb.lt
theorem drewN_mod {w w' : World} {k : Nat} (h : w.drewN k = w') : Mod [] w w' := h ▸ Mod.of_drewN [] w k
theorem PcS.mod0 {w wr w' : World} {q2 q4 q5 q6 : Nat} {s : St8} (h : PcS w q2 q4 q5 q6 s wr) (hm : Mod [] wr w') : PcS w q2 q4 q5 q6 s w' := h.mod (hm.mono (by simp))
theorem EW.drewN_ {q t : Nat} {w w' : World} {k : Nat} (h : w.drewN k = w') (hq : q < w.heap.size) : EW q t w w' := h ▸ EW.of (Mod.of_drewN [] w k) hq
/-! ### the rounds -/
theorem turnedI (x m : Int) (hm : 0 ≤ m ∧ m ≤ 31) (w : World) : Calls Try.prog 90 #[.int .u32 x, .int .i64 m] w fun e w' => e = .returned (.int .u32 (rotr x m.toNat)) ∧ ∃ k, w.drewN k = w' := by
  have h := turned_any x m.toNat (by omega) w
  rwa [Int.toNat_of_nonneg hm.1] at h
def ch8 (x : St8) : Int := bits .xor .u32 (bits .and .u32 x.e x.f) (bits .and .u32 (bits .xor .u32 IntKind.u32.max x.e) x.g)
def maj8 (x : St8) : Int := bits .xor .u32 (bits .xor .u32 (bits .and .u32 x.a x.b) (bits .and .u32 x.a x.c)) (bits .and .u32 x.b x.c)
def t1of (k w : Int) (x : St8) : Int := (x.h + bits .xor .u32 (bits .xor .u32 (rotr x.e 6) (rotr x.e 11)) (rotr x.e 25) + ch8 x + k + w) % 4294967296
def t2of (x : St8) : Int := (bits .xor .u32 (bits .xor .u32 (rotr x.a 2) (rotr x.a 13)) (rotr x.a 22) + maj8 x) % 4294967296
def rnd (k w : Int) (x : St8) : St8 := ⟨(t1of k w x + t2of x) % 4294967296, x.a, x.b, x.c, (x.d + t1of k w x) % 4294967296, x.e, x.f, x.g⟩
def rnds (b : Bytes) (s : St8) : Nat → St8
  | 0 => s
  | t + 1 => rnd (kc t) (sched b t) (rnds b s t)
def addS (s x : St8) : St8 := ⟨(s.a + x.a) % 4294967296, (s.b + x.b) % 4294967296, (s.c + x.c) % 4294967296, (s.d + x.d) % 4294967296, (s.e + x.e) % 4294967296, (s.f + x.f) % 4294967296, (s.g + x.g) % 4294967296, (s.h + x.h) % 4294967296⟩
theorem St8.one (s : St8) : ∀ u ∈ s.cells, u.oneCell' = true := uv_one [s.a, s.b, s.c, s.d, s.e, s.f, s.g, s.h]
def pieceSt (s : St8) (b : Bytes) : St8 := addS s (rnds b s 64)
theorem kc_cell (t : Nat) (h : t < 64) : (shaK.map uv).toArray[t]? = some (uv (kc t)) := by
  have h' : t < shaK.length := by have := shaK_len; simp at this; omega
  rw [List.getElem?_toArray, List.getElem?_map, List.getElem?_eq_getElem h', kc, List.getD_eq_getElem?_getD, List.getElem?_eq_getElem h']; rfl
end Go.Proofs.Ytlpjeckhejbkkaa
end

section
set_option linter.unusedVariables false
set_option linter.unusedSimpArgs false
set_option maxRecDepth 20000
set_option maxHeartbeats 3200000
namespace Go.Proofs.Ytlpjeckhejbkkaa
open Go.RowKit

theorem piece_any (s : St8) (b : Bytes) (g : Nat) (v : Value) (w : World) (hb : BS w g v b) (hl : b.length = 64) :
    Calls Try.prog 80 #[.agg s.cells.toArray, v] w fun e w' => e = .returned (.agg (pieceSt s b).cells.toArray) ∧ Mod [] w w' := by
  obtain ⟨off, cap, rfl, hc1, hc2, hg, hcell⟩ := hb.at_ (by omega)
  unfold maxLen at hc2
  have HC := Lib.hid hcell; clear hcell hb
  rw [hl] at hc1 ⊢
  go_enter Try.func80, Try.ntmps80
  go_wp2_with (first | ((with_reducible refine wpList_box _ rfl ?hgd (cs := s.cells) ?hx ?_); (case hgd => exact rfl); (case hx => exact rfl); intro q2 w1 hb1 hm1 hq1 hl1; have HB2 := Lib.hid hb1; have HM1 := Lib.hid hm1; clear hb1 hm1) | ((with_reducible refine wpList_alloc zeroW8_run rfl ?hgd ?_); (case hgd => exact rfl); intro q4 w2 hb2 hm2 hq2 hl2; have HB4 := Lib.hid hb2; have HB22 := Lib.hid (HB2.out.mod hm2 (by simp)); have HM2 := Lib.hid (HM1.out.trans hm2); clear hb2 hm2))
  have hA : Hid (w.heap.size ≤ q4 ∧ q2 < q4 ∧ q4 < w2.heap.size) := Lib.hid ⟨by have := HM1.out.size; omega, by omega, by omega⟩
  refine (rounds_any w2).mono ?_
  rintro e' w3 ⟨rfl, hm3⟩
  have HB23 := Lib.hid (HB22.out.mod hm3 (by simp))
  have HB43 := Lib.hid (HB4.out.mod hm3 (by simp))
  have hA3 := Lib.hid hm3.size
  have HM3 := Lib.hid (HM2.out.trans hm3)
  clear hm3 HB2 HB22 HB4 HM1 HM2
  go_upto_region 2 with (first | ((with_reducible refine wpList_alloc zeroW64_run rfl ?hgd ?_); (case hgd => exact rfl); intro q5 w4 hb4 hm4 hq3 hl3; have HA4 := Lib.hid hb4; have HM34 := Lib.hid hm4; clear hb4 hm4) | ((with_reducible refine wpList_store_blk rtW64 (cells := shaK.map uv) _ _ rfl ?hgd ?hx ?hy HA4.out shaK_len ?hold (uv_one _) ?_); (case hgd => exact rfl); (case hx => exact rfl); (case hy => exact rfl); (case hold => exact rfl); intro w5 hb5 hm5; have hmx : Mod [] w3 w5 := HM34.out.then hm5 (by simp; omega); have hA5 : Hid (w.heap.size ≤ w5.heap.size ∧ q5 < w5.heap.size) := Lib.hid ⟨(HM3.out.trans hmx).size, hb5.lt⟩; have HB5 := Lib.hid hb5; have HB25 := Lib.hid (HB23.out.mod hmx (by simp)); have HB45 := Lib.hid (HB43.out.mod hmx (by simp)); have HM5 := Lib.hid (HM3.out.trans hmx); clear hb5 hm5 hmx))
  go_upto_region 3 with (first | ((with_reducible refine wpList_alloc zeroW64_run rfl ?hgd ?_); (case hgd => exact rfl); intro q6 w6 hb6 hm6 hq6 hl6; have HB6 := Lib.hid hb6; have HB56 := Lib.hid (HB5.out.mod hm6 (by simp)); have HB26 := Lib.hid (HB25.out.mod hm6 (by simp)); have HB46 := Lib.hid (HB45.out.mod hm6 (by simp)); have HM6 := Lib.hid (HM5.out.trans hm6); clear hb6 hm6))
  clear HB23 HB43 HM3 HA4 HM34 HB5 HB25 HB45 HM5
  have HP : Hid (PcS w q2 q4 q5 q6 s w6) := Lib.hid ⟨HB26.out, HB46.out, HB56.out, HM6.out, by have h1 := hA.out; have := HB26.out.lt; have := HB46.out.lt; have := HB56.out.lt; have := HB6.out.lt; have := HM6.out.size; have := hA5.out; have := HB26.out.ne_ HB6.out (by decide); have := HB46.out.ne_ HB6.out (by decide); omega⟩
  have HW : Hid (W64 w6 q6 (sched b) 0) := Lib.hid ⟨_, HB6.out, by simp, fun i hi => by omega⟩
  clear HB6 HB56 HB26 HB46 HM6 hq1 hl1 hq2 hl2 hq3 hl3 hq6 hl6
  go_wp2_with fail
  go_loopw [22] (fun s22 wr => ∃ t : Nat, s22 = .int .i64 (t : Int) ∧ t ≤ 64 ∧ Hid (PcS w q2 q4 q5 q6 s wr) ∧ Hid (W64 wr q6 (sched b) t)) (fun s _ => 64 - (intOf s).toNat)
  case atStart => exact ⟨0, rfl, by omega, HP, HW⟩
  case round =>
    obtain ⟨t, rfl, ht, HP1, HW1⟩ := hrel
    clear HP HW
    by_cases ht64 : t < 64
    · by_cases ht16 : t < 16
      · have hti : (t : Int) < 64 := by omega
        have htj : (t : Int) < 16 := by omega
        go_wp2_with fail
        have hq0 : IntKind.i64.wrap (4 * (t : Int)) = 4 * (t : Int) := IntWalk.i64_in _ (by omega)
        have hq1 : IntKind.i64.wrap (4 * (t : Int) + 1) = 4 * (t : Int) + 1 := IntWalk.i64_in _ (by omega)
        have hq2 : IntKind.i64.wrap (4 * (t : Int) + 2) = 4 * (t : Int) + 2 := IntWalk.i64_in _ (by omega)
        have hq3 : IntKind.i64.wrap (4 * (t : Int) + 3) = 4 * (t : Int) + 3 := IntWalk.i64_in _ (by omega)
        have hn0 : (4 * (t : Int)).toNat = 4 * t := by omega
        have hn1 : (4 * (t : Int) + 1).toNat = 4 * t + 1 := by omega
        have hn2 : (4 * (t : Int) + 2).toNat = 4 * t + 2 := by omega
        have hn3 : (4 * (t : Int) + 3).toNat = 4 * t + 3 := by omega
        have hi0 : 0 ≤ 4 * (t : Int) ∧ 4 * (t : Int) < 64 := by omega
        have hi1 : 0 ≤ 4 * (t : Int) + 1 ∧ 4 * (t : Int) + 1 < 64 := by omega
        have hi2 : 0 ≤ 4 * (t : Int) + 2 ∧ 4 * (t : Int) + 2 < 64 := by omega
        have hi3 : 0 ≤ 4 * (t : Int) + 3 ∧ 4 * (t : Int) + 3 < 64 := by omega
        have hw0 : Mod [q6] wr wr.drew := (Mod.refl _ wr).drew
        have HB : Hid (∀ j, j < 64 → ∀ W, Mod [q6] wr W → W.cell? ⟨g, off + j, none⟩ = some (.int .u8 (sha_b b j))) := Lib.hid (fun j hj W hW => by
          have h1 := HC.out j (bv (b[j]'(by omega))) (by rw [List.getElem?_map, List.getElem?_eq_getElem (by omega)]; rfl)
          have h2 : sha_b b j = ((b[j]'(by omega)).toNat : Int) := by unfold sha_b; rw [List.getD_eq_getElem?_getD, List.getElem?_eq_getElem (by omega)]; rfl
          rw [h2]
          exact ((hW.cell (p := ⟨g, off + j, none⟩) (by have := HP1.out.md.size; simp; omega) (by have := HP1.out.ne; simp; omega)).trans ((HP1.out.md.cell (p := ⟨g, off + j, none⟩) hg (by simp)).trans h1)))
        refine wp_regionE (Mod [q6]) (by kernel_rfl) ?_
        simp only [List.size_toArray, List.length_cons, List.length_nil, Nat.zero_add, Nat.reduceAdd]
        refine wpAnyE_takeL (preMod _) 0 (v := ?_) rfl (by kernel_rfl) (by kernel_rfl) (by kernel_rfl) (fun _ _ _ h => h) (Or.inl ⟨by rfl, ?_⟩) ?_
        rotate_left; (intro W hW; (try dsimp only at hW); go_simp; try with_reducible rfl)
        (try simp only [Act.put, List.setIfInBounds_toArray, List.set_cons_zero, List.set_cons_succ])
        refine wpAnyE_takeL (preMod _) 1 (v := ?_) rfl (by kernel_rfl) (by kernel_rfl) (by kernel_rfl) (fun _ _ _ h => h) (Or.inl ⟨by rfl, ?_⟩) ?_
        rotate_left; (intro W hW; (try dsimp only at hW); go_simp; try with_reducible rfl)
        (try simp only [Act.put, List.setIfInBounds_toArray, List.set_cons_zero, List.set_cons_succ])
        refine wpAnyE_takeL (preMod _) 2 (v := ?_) rfl (by kernel_rfl) (by kernel_rfl) (by kernel_rfl) (fun _ _ _ h => h) (Or.inl ⟨by rfl, ?_⟩) ?_
        rotate_left; (intro W hW; (try dsimp only at hW); go_simp; try with_reducible rfl)
        (try simp only [Act.put, List.setIfInBounds_toArray, List.set_cons_zero, List.set_cons_succ])
        refine wpAnyE_takeL (preMod _) 3 (v := ?_) rfl (by kernel_rfl) (by kernel_rfl) (by kernel_rfl) (fun _ _ _ h => h) (Or.inl ⟨by rfl, ?_⟩) ?_
        rotate_left; (intro W hW; (try dsimp only at hW); go_simp; try with_reducible rfl)
        (try simp only [Act.put, List.setIfInBounds_toArray, List.set_cons_zero, List.set_cons_succ])
        refine wpAnyE_takeL (preMod _) 4 (v := ?_) rfl (by kernel_rfl) (by kernel_rfl) (by kernel_rfl) (fun _ _ _ h => h) (Or.inl ⟨by rfl, ?_⟩) ?_
        rotate_left; (intro W hW; (try dsimp only at hW); (go_simp; try rw [if_pos (by omega)]); try with_reducible rfl)
        (try simp only [Act.put, List.setIfInBounds_toArray, List.set_cons_zero, List.set_cons_succ])
        refine wpAnyE_takeL (preMod _) 5 (v := ?_) rfl (by kernel_rfl) (by kernel_rfl) (by kernel_rfl) (fun _ _ _ h => h) (Or.inl ⟨by rfl, ?_⟩) ?_
        rotate_left; (intro W hW; (try dsimp only at hW); (have hcw := HB.out (4 * t) (by omega) W (hw0.trans hW); go_simp); try with_reducible rfl)
        (try simp only [Act.put, List.setIfInBounds_toArray, List.set_cons_zero, List.set_cons_succ])
        refine wpAnyE_takeL (preMod _) 6 (v := ?_) rfl (by kernel_rfl) (by kernel_rfl) (by kernel_rfl) (fun _ _ _ h => h) (Or.inl ⟨by rfl, ?_⟩) ?_
        rotate_left; (intro W hW; (try dsimp only at hW); go_simp; try with_reducible rfl)
        (try simp only [Act.put, List.setIfInBounds_toArray, List.set_cons_zero, List.set_cons_succ])
        refine wpAnyE_takeL (preMod _) 7 (v := ?_) rfl (by kernel_rfl) (by kernel_rfl) (by kernel_rfl) (fun _ _ _ h => h) (Or.inl ⟨by rfl, ?_⟩) ?_
        rotate_left; (intro W hW; (try dsimp only at hW); go_simp; try with_reducible rfl)
        (try simp only [Act.put, List.setIfInBounds_toArray, List.set_cons_zero, List.set_cons_succ])
        refine wpAnyE_takeL (preMod _) 8 (v := ?_) rfl (by kernel_rfl) (by kernel_rfl) (by kernel_rfl) (fun _ _ _ h => h) (Or.inl ⟨by rfl, ?_⟩) ?_
        rotate_left; (intro W hW; (try dsimp only at hW); go_simp; try with_reducible rfl)
        (try simp only [Act.put, List.setIfInBounds_toArray, List.set_cons_zero, List.set_cons_succ])
        refine wpAnyE_takeL (preMod _) 9 (v := ?_) rfl (by kernel_rfl) (by kernel_rfl) (by kernel_rfl) (fun _ _ _ h => h) (Or.inl ⟨by rfl, ?_⟩) ?_
        rotate_left; (intro W hW; (try dsimp only at hW); go_simp; try with_reducible rfl)
        (try simp only [Act.put, List.setIfInBounds_toArray, List.set_cons_zero, List.set_cons_succ])
        refine wpAnyE_takeL (preMod _) 10 (v := ?_) rfl (by kernel_rfl) (by kernel_rfl) (by kernel_rfl) (fun _ _ _ h => h) (Or.inl ⟨by rfl, ?_⟩) ?_
        rotate_left; (intro W hW; (try dsimp only at hW); go_simp; try with_reducible rfl)
        (try simp only [Act.put, List.setIfInBounds_toArray, List.set_cons_zero, List.set_cons_succ])
        refine wpAnyE_takeL (preMod _) 11 (v := ?_) rfl (by kernel_rfl) (by kernel_rfl) (by kernel_rfl) (fun _ _ _ h => h) (Or.inl ⟨by rfl, ?_⟩) ?_
        rotate_left; (intro W hW; (try dsimp only at hW); go_simp; try with_reducible rfl)
        (try simp only [Act.put, List.setIfInBounds_toArray, List.set_cons_zero, List.set_cons_succ])
        refine wpAnyE_takeL (preMod _) 12 (v := ?_) rfl (by kernel_rfl) (by kernel_rfl) (by kernel_rfl) (fun _ _ _ h => h) (Or.inl ⟨by rfl, ?_⟩) ?_
        rotate_left; (intro W hW; (try dsimp only at hW); (go_simp; try rw [if_pos (by omega)]); try with_reducible rfl)
        (try simp only [Act.put, List.setIfInBounds_toArray, List.set_cons_zero, List.set_cons_succ])
        refine wpAnyE_takeL (preMod _) 13 (v := ?_) rfl (by kernel_rfl) (by kernel_rfl) (by kernel_rfl) (fun _ _ _ h => h) (Or.inl ⟨by rfl, ?_⟩) ?_
        rotate_left; (intro W hW; (try dsimp only at hW); (have hcw := HB.out (4 * t + 1) (by omega) W (hw0.trans hW); go_simp); try with_reducible rfl)
        (try simp only [Act.put, List.setIfInBounds_toArray, List.set_cons_zero, List.set_cons_succ])
        refine wpAnyE_takeL (preMod _) 14 (v := ?_) rfl (by kernel_rfl) (by kernel_rfl) (by kernel_rfl) (fun _ _ _ h => h) (Or.inl ⟨by rfl, ?_⟩) ?_
        rotate_left; (intro W hW; (try dsimp only at hW); go_simp; try with_reducible rfl)
        (try simp only [Act.put, List.setIfInBounds_toArray, List.set_cons_zero, List.set_cons_succ])
        refine wpAnyE_takeL (preMod _) 15 (v := ?_) rfl (by kernel_rfl) (by kernel_rfl) (by kernel_rfl) (fun _ _ _ h => h) (Or.inl ⟨by rfl, ?_⟩) ?_
        rotate_left; (intro W hW; (try dsimp only at hW); go_simp; try with_reducible rfl)
        (try simp only [Act.put, List.setIfInBounds_toArray, List.set_cons_zero, List.set_cons_succ])
        refine wpAnyE_takeL (preMod _) 16 (v := ?_) rfl (by kernel_rfl) (by kernel_rfl) (by kernel_rfl) (fun _ _ _ h => h) (Or.inl ⟨by rfl, ?_⟩) ?_
        rotate_left; (intro W hW; (try dsimp only at hW); go_simp; try with_reducible rfl)
        (try simp only [Act.put, List.setIfInBounds_toArray, List.set_cons_zero, List.set_cons_succ])
        refine wpAnyE_takeL (preMod _) 17 (v := ?_) rfl (by kernel_rfl) (by kernel_rfl) (by kernel_rfl) (fun _ _ _ h => h) (Or.inl ⟨by rfl, ?_⟩) ?_
        rotate_left; (intro W hW; (try dsimp only at hW); go_simp; try with_reducible rfl)
        (try simp only [Act.put, List.setIfInBounds_toArray, List.set_cons_zero, List.set_cons_succ])
        refine wpAnyE_takeL (preMod _) 18 (v := ?_) rfl (by kernel_rfl) (by kernel_rfl) (by kernel_rfl) (fun _ _ _ h => h) (Or.inl ⟨by rfl, ?_⟩) ?_
        rotate_left; (intro W hW; (try dsimp only at hW); go_simp; try with_reducible rfl)
        (try simp only [Act.put, List.setIfInBounds_toArray, List.set_cons_zero, List.set_cons_succ])
        refine wpAnyE_takeL (preMod _) 19 (v := ?_) rfl (by kernel_rfl) (by kernel_rfl) (by kernel_rfl) (fun _ _ _ h => h) (Or.inl ⟨by rfl, ?_⟩) ?_
        rotate_left; (intro W hW; (try dsimp only at hW); go_simp; try with_reducible rfl)
        (try simp only [Act.put, List.setIfInBounds_toArray, List.set_cons_zero, List.set_cons_succ])
        refine wpAnyE_takeL (preMod _) 20 (v := ?_) rfl (by kernel_rfl) (by kernel_rfl) (by kernel_rfl) (fun _ _ _ h => h) (Or.inl ⟨by rfl, ?_⟩) ?_
        rotate_left; (intro W hW; (try dsimp only at hW); go_simp; try with_reducible rfl)
        (try simp only [Act.put, List.setIfInBounds_toArray, List.set_cons_zero, List.set_cons_succ])
        refine wpAnyE_takeL (preMod _) 21 (v := ?_) rfl (by kernel_rfl) (by kernel_rfl) (by kernel_rfl) (fun _ _ _ h => h) (Or.inl ⟨by rfl, ?_⟩) ?_
        rotate_left; (intro W hW; (try dsimp only at hW); (go_simp; try rw [if_pos (by omega)]); try with_reducible rfl)
        (try simp only [Act.put, List.setIfInBounds_toArray, List.set_cons_zero, List.set_cons_succ])
        refine wpAnyE_takeL (preMod _) 22 (v := ?_) rfl (by kernel_rfl) (by kernel_rfl) (by kernel_rfl) (fun _ _ _ h => h) (Or.inl ⟨by rfl, ?_⟩) ?_
        rotate_left; (intro W hW; (try dsimp only at hW); (have hcw := HB.out (4 * t + 2) (by omega) W (hw0.trans hW); go_simp); try with_reducible rfl)
        (try simp only [Act.put, List.setIfInBounds_toArray, List.set_cons_zero, List.set_cons_succ])
        refine wpAnyE_takeL (preMod _) 23 (v := ?_) rfl (by kernel_rfl) (by kernel_rfl) (by kernel_rfl) (fun _ _ _ h => h) (Or.inl ⟨by rfl, ?_⟩) ?_
        rotate_left; (intro W hW; (try dsimp only at hW); go_simp; try with_reducible rfl)
        (try simp only [Act.put, List.setIfInBounds_toArray, List.set_cons_zero, List.set_cons_succ])
        refine wpAnyE_takeL (preMod _) 24 (v := ?_) rfl (by kernel_rfl) (by kernel_rfl) (by kernel_rfl) (fun _ _ _ h => h) (Or.inl ⟨by rfl, ?_⟩) ?_
        rotate_left; (intro W hW; (try dsimp only at hW); go_simp; try with_reducible rfl)
        (try simp only [Act.put, List.setIfInBounds_toArray, List.set_cons_zero, List.set_cons_succ])
        refine wpAnyE_takeL (preMod _) 25 (v := ?_) rfl (by kernel_rfl) (by kernel_rfl) (by kernel_rfl) (fun _ _ _ h => h) (Or.inl ⟨by rfl, ?_⟩) ?_
        rotate_left; (intro W hW; (try dsimp only at hW); go_simp; try with_reducible rfl)
        (try simp only [Act.put, List.setIfInBounds_toArray, List.set_cons_zero, List.set_cons_succ])
        refine wpAnyE_takeL (preMod _) 26 (v := ?_) rfl (by kernel_rfl) (by kernel_rfl) (by kernel_rfl) (fun _ _ _ h => h) (Or.inl ⟨by rfl, ?_⟩) ?_
        rotate_left; (intro W hW; (try dsimp only at hW); go_simp; try with_reducible rfl)
        (try simp only [Act.put, List.setIfInBounds_toArray, List.set_cons_zero, List.set_cons_succ])
        refine wpAnyE_takeL (preMod _) 27 (v := ?_) rfl (by kernel_rfl) (by kernel_rfl) (by kernel_rfl) (fun _ _ _ h => h) (Or.inl ⟨by rfl, ?_⟩) ?_
        rotate_left; (intro W hW; (try dsimp only at hW); go_simp; try with_reducible rfl)
        (try simp only [Act.put, List.setIfInBounds_toArray, List.set_cons_zero, List.set_cons_succ])
        refine wpAnyE_takeL (preMod _) 28 (v := ?_) rfl (by kernel_rfl) (by kernel_rfl) (by kernel_rfl) (fun _ _ _ h => h) (Or.inl ⟨by rfl, ?_⟩) ?_
        rotate_left; (intro W hW; (try dsimp only at hW); go_simp; try with_reducible rfl)
        (try simp only [Act.put, List.setIfInBounds_toArray, List.set_cons_zero, List.set_cons_succ])
        refine wpAnyE_takeL (preMod _) 29 (v := ?_) rfl (by kernel_rfl) (by kernel_rfl) (by kernel_rfl) (fun _ _ _ h => h) (Or.inl ⟨by rfl, ?_⟩) ?_
        rotate_left; (intro W hW; (try dsimp only at hW); go_simp; try with_reducible rfl)
        (try simp only [Act.put, List.setIfInBounds_toArray, List.set_cons_zero, List.set_cons_succ])
        refine wpAnyE_takeL (preMod _) 30 (v := ?_) rfl (by kernel_rfl) (by kernel_rfl) (by kernel_rfl) (fun _ _ _ h => h) (Or.inl ⟨by rfl, ?_⟩) ?_
        rotate_left; (intro W hW; (try dsimp only at hW); (go_simp; try rw [if_pos (by omega)]); try with_reducible rfl)
        (try simp only [Act.put, List.setIfInBounds_toArray, List.set_cons_zero, List.set_cons_succ])
        refine wpAnyE_takeL (preMod _) 31 (v := ?_) rfl (by kernel_rfl) (by kernel_rfl) (by kernel_rfl) (fun _ _ _ h => h) (Or.inl ⟨by rfl, ?_⟩) ?_
        rotate_left; (intro W hW; (try dsimp only at hW); (have hcw := HB.out (4 * t + 3) (by omega) W (hw0.trans hW); go_simp); try with_reducible rfl)
        (try simp only [Act.put, List.setIfInBounds_toArray, List.set_cons_zero, List.set_cons_succ])
        refine wpAnyE_takeL (preMod _) 32 (v := ?_) rfl (by kernel_rfl) (by kernel_rfl) (by kernel_rfl) (fun _ _ _ h => h) (Or.inl ⟨by rfl, ?_⟩) ?_
        rotate_left; (intro W hW; (try dsimp only at hW); go_simp; try with_reducible rfl)
        (try simp only [Act.put, List.setIfInBounds_toArray, List.set_cons_zero, List.set_cons_succ])
        refine wpAnyE_takeL (preMod _) 33 (v := ?_) rfl (by kernel_rfl) (by kernel_rfl) (by kernel_rfl) (fun _ _ _ h => h) (Or.inl ⟨by rfl, ?_⟩) ?_
        rotate_left; (intro W hW; (try dsimp only at hW); go_simp; try with_reducible rfl)
        (try simp only [Act.put, List.setIfInBounds_toArray, List.set_cons_zero, List.set_cons_succ])
        refine wpAnyE_takeL (preMod _) 34 (v := ?_) rfl (by kernel_rfl) (by kernel_rfl) (by kernel_rfl) (fun _ _ _ h => h) (Or.inl ⟨by rfl, ?_⟩) ?_
        rotate_left; (intro W hW; (try dsimp only at hW); go_simp; try with_reducible rfl)
        (try simp only [Act.put, List.setIfInBounds_toArray, List.set_cons_zero, List.set_cons_succ])
        refine wpAnyE_ready (rs := [35]) (by kernel_rfl) (by simp) ?_
        refine AllReadyE.consL rfl (fun K hK => ?_) AllReadyE.nil
        rw [if_pos (by rfl)]
        refine opwp_of_list rfl (fun Q' hQ' => ?_)
        refine wpList_store_w64 (f := sched b) _ _ rfl (by rfl) (by rfl) (by rfl) HW1.out ht64 (sched_lo b t ht16).symm ?_
        intro w9 hw9 hm9
        refine hQ' _ _ ?_
        have hmE : Mod [q6] wr.drew w9 := hm9
        have HW9 := Lib.hid hw9
        have HP9 := Lib.hid (HP1.out.mod (hw0.trans hm9))
        refine hK.out _ _ (by first | exact hmE | exact Mod.refl _ _ | exact (Mod.refl _ _).alloc _) ?_
        clear hK
        (try simp only [Act.put, List.setIfInBounds_toArray, List.set_cons_zero, List.set_cons_succ])
        refine wpAnyE_done (by kernel_rfl) ?_ _
        go_wp2_with fail
        exact ⟨⟨t + 1, by simp, by omega, HP9, HW9⟩, by simp [intOf]; omega⟩
      · have hti : (t : Int) < 64 := by omega
        have htj : ¬ (t : Int) < 16 := by omega
        have hq0 : IntKind.i64.wrap ((t : Int) - 15) = (t : Int) - 15 := IntWalk.i64_in _ (by omega)
        have hq1 : IntKind.i64.wrap ((t : Int) - 2) = (t : Int) - 2 := IntWalk.i64_in _ (by omega)
        have hq2 : IntKind.i64.wrap ((t : Int) - 16) = (t : Int) - 16 := IntWalk.i64_in _ (by omega)
        have hq3 : IntKind.i64.wrap ((t : Int) - 7) = (t : Int) - 7 := IntWalk.i64_in _ (by omega)
        have hn0 : ((t : Int) - 15).toNat = t - 15 := by omega
        have hn1 : ((t : Int) - 2).toNat = t - 2 := by omega
        have hn2 : ((t : Int) - 16).toNat = t - 16 := by omega
        have hn3 : ((t : Int) - 7).toNat = t - 7 := by omega
        have hi0 : 0 ≤ (t : Int) - 15 ∧ (t : Int) - 15 < 64 := by omega
        have hi1 : 0 ≤ (t : Int) - 2 ∧ (t : Int) - 2 < 64 := by omega
        have hi2 : 0 ≤ (t : Int) - 16 ∧ (t : Int) - 16 < 64 := by omega
        have hi3 : 0 ≤ (t : Int) - 7 ∧ (t : Int) - 7 < 64 := by omega
        have hc0 := HW1.out.cell (i := t - 15) (by omega)
        have hc1 := HW1.out.cell (i := t - 2) (by omega)
        go_wp2_with fail
        go_quiet (fail)
        go_wp2_with fail
        have HWc : Hid (W64 (World.drew (World.drewN wr nq)) q6 (sched b) t) := Lib.hid HW1.out
        have HPc : Hid (PcS w q2 q4 q5 q6 s (World.drew (World.drewN wr nq))) := Lib.hid (HP1.out.mod ((Mod.of_drewN [q6] wr nq).drew))
        refine wp_regionE (EW q6 t) (by kernel_rfl) ?_
        simp only [List.size_toArray, List.length_cons, List.length_nil, Nat.zero_add, Nat.reduceAdd]
        refine wpAnyE_takeL (preEW _ _) 0 (v := ?_) rfl (by kernel_rfl) (by kernel_rfl) (by kernel_rfl) (fun _ _ _ h => h) (Or.inl ⟨by rfl, ?_⟩) ?_
        rotate_left; (intro W hW; (try dsimp only at hW); go_simp; try with_reducible rfl)
        (try simp only [Act.put, List.setIfInBounds_toArray, List.set_cons_zero, List.set_cons_succ])
        refine wpAnyE_takeL (preEW _ _) 1 (v := ?_) rfl (by kernel_rfl) (by kernel_rfl) (by kernel_rfl) (fun _ _ _ h => h) (Or.inl ⟨by rfl, ?_⟩) ?_
        rotate_left; (intro W hW; (try dsimp only at hW); go_simp; try with_reducible rfl)
        (try simp only [Act.put, List.setIfInBounds_toArray, List.set_cons_zero, List.set_cons_succ])
        refine wpAnyE_takeL (preEW _ _) 2 (v := ?_) rfl (by kernel_rfl) (by kernel_rfl) (by kernel_rfl) (fun _ _ _ h => h) (Or.inl ⟨by rfl, ?_⟩) ?_
        rotate_left; (intro W hW; (try dsimp only at hW); go_simp; try with_reducible rfl)
        (try simp only [Act.put, List.setIfInBounds_toArray, List.set_cons_zero, List.set_cons_succ])
        refine wpAnyE_takeL (preEW _ _) 3 (v := ?_) rfl (by kernel_rfl) (by kernel_rfl) (by kernel_rfl) (fun _ _ _ h => h) (Or.inl ⟨by rfl, ?_⟩) ?_
        rotate_left; (intro W hW; (try dsimp only at hW); (go_simp; try rw [if_pos (by omega)]); try with_reducible rfl)
        (try simp only [Act.put, List.setIfInBounds_toArray, List.set_cons_zero, List.set_cons_succ])
        refine wpAnyE_takeL (preEW _ _) 4 (v := ?_) rfl (by kernel_rfl) (by kernel_rfl) (by kernel_rfl) (fun _ _ _ h => h) (Or.inl ⟨by rfl, ?_⟩) ?_
        rotate_left; (intro W hW; (try dsimp only at hW); (have hcw := (hW.2 (t - 16) (by omega)).trans (HWc.out.cell (i := t - 16) (by omega)); go_simp); try with_reducible rfl)
        (try simp only [Act.put, List.setIfInBounds_toArray, List.set_cons_zero, List.set_cons_succ])
        refine wpAnyE_takeL (preEW _ _) 5 (v := ?_) rfl (by kernel_rfl) (by kernel_rfl) (by kernel_rfl) (fun _ _ _ h => h) (Or.inl ⟨by rfl, ?_⟩) ?_
        rotate_left; (intro W hW; (try dsimp only at hW); go_simp; try with_reducible rfl)
        (try simp only [Act.put, List.setIfInBounds_toArray, List.set_cons_zero, List.set_cons_succ])
        refine wpAnyE_takeL (preEW _ _) 7 (v := ?_) rfl (by kernel_rfl) (by kernel_rfl) (by kernel_rfl) (fun _ _ _ h => h) (Or.inl ⟨by rfl, ?_⟩) ?_
        rotate_left; (intro W hW; (try dsimp only at hW); go_simp; try with_reducible rfl)
        (try simp only [Act.put, List.setIfInBounds_toArray, List.set_cons_zero, List.set_cons_succ])
        refine wpAnyE_takeL (preEW _ _) 10 (v := ?_) rfl (by kernel_rfl) (by kernel_rfl) (by kernel_rfl) (fun _ _ _ h => h) (Or.inl ⟨by rfl, ?_⟩) ?_
        rotate_left; (intro W hW; (try dsimp only at hW); go_simp; try with_reducible rfl)
        (try simp only [Act.put, List.setIfInBounds_toArray, List.set_cons_zero, List.set_cons_succ])
        refine wpAnyE_takeL (preEW _ _) 11 (v := ?_) rfl (by kernel_rfl) (by kernel_rfl) (by kernel_rfl) (fun _ _ _ h => h) (Or.inl ⟨by rfl, ?_⟩) ?_
        rotate_left; (intro W hW; (try dsimp only at hW); go_simp; try with_reducible rfl)
        (try simp only [Act.put, List.setIfInBounds_toArray, List.set_cons_zero, List.set_cons_succ])
        refine wpAnyE_takeL (preEW _ _) 14 (v := ?_) rfl (by kernel_rfl) (by kernel_rfl) (by kernel_rfl) (fun _ _ _ h => h) (Or.inl ⟨by rfl, ?_⟩) ?_
        rotate_left; (intro W hW; (try dsimp only at hW); go_simp; try with_reducible rfl)
        (try simp only [Act.put, List.setIfInBounds_toArray, List.set_cons_zero, List.set_cons_succ])
        refine wpAnyE_takeL (preEW _ _) 15 (v := ?_) rfl (by kernel_rfl) (by kernel_rfl) (by kernel_rfl) (fun _ _ _ h => h) (Or.inl ⟨by rfl, ?_⟩) ?_
        rotate_left; (intro W hW; (try dsimp only at hW); go_simp; try with_reducible rfl)
        (try simp only [Act.put, List.setIfInBounds_toArray, List.set_cons_zero, List.set_cons_succ])
        refine wpAnyE_takeL (preEW _ _) 16 (v := ?_) rfl (by kernel_rfl) (by kernel_rfl) (by kernel_rfl) (fun _ _ _ h => h) (Or.inl ⟨by rfl, ?_⟩) ?_
        rotate_left; (intro W hW; (try dsimp only at hW); (go_simp; try rw [if_pos (by omega)]); try with_reducible rfl)
        (try simp only [Act.put, List.setIfInBounds_toArray, List.set_cons_zero, List.set_cons_succ])
        refine wpAnyE_takeL (preEW _ _) 17 (v := ?_) rfl (by kernel_rfl) (by kernel_rfl) (by kernel_rfl) (fun _ _ _ h => h) (Or.inl ⟨by rfl, ?_⟩) ?_
        rotate_left; (intro W hW; (try dsimp only at hW); (have hcw := (hW.2 (t - 7) (by omega)).trans (HWc.out.cell (i := t - 7) (by omega)); go_simp); try with_reducible rfl)
        (try simp only [Act.put, List.setIfInBounds_toArray, List.set_cons_zero, List.set_cons_succ])
        refine wpAnyE_takeL (preEW _ _) 19 (v := ?_) rfl (by kernel_rfl) (by kernel_rfl) (by kernel_rfl) (fun _ _ _ h => h) (Or.inl ⟨by rfl, ?_⟩) ?_
        rotate_left; (intro W hW; (try dsimp only at hW); go_simp; try with_reducible rfl)
        (try simp only [Act.put, List.setIfInBounds_toArray, List.set_cons_zero, List.set_cons_succ])
        refine wpAnyE_takeL (preEW _ _) 21 (v := ?_) rfl (by kernel_rfl) (by kernel_rfl) (by kernel_rfl) (fun _ _ _ h => h) (Or.inl ⟨by rfl, ?_⟩) ?_
        rotate_left; (intro W hW; (try dsimp only at hW); go_simp; try with_reducible rfl)
        (try simp only [Act.put, List.setIfInBounds_toArray, List.set_cons_zero, List.set_cons_succ])
        refine wpAnyE_takeL (preEW _ _) 24 (v := ?_) rfl (by kernel_rfl) (by kernel_rfl) (by kernel_rfl) (fun _ _ _ h => h) (Or.inl ⟨by rfl, ?_⟩) ?_
        rotate_left; (intro W hW; (try dsimp only at hW); go_simp; try with_reducible rfl)
        (try simp only [Act.put, List.setIfInBounds_toArray, List.set_cons_zero, List.set_cons_succ])
        refine wpAnyE_takeL (preEW _ _) 25 (v := ?_) rfl (by kernel_rfl) (by kernel_rfl) (by kernel_rfl) (fun _ _ _ h => h) (Or.inl ⟨by rfl, ?_⟩) ?_
        rotate_left; (intro W hW; (try dsimp only at hW); go_simp; try with_reducible rfl)
        (try simp only [Act.put, List.setIfInBounds_toArray, List.set_cons_zero, List.set_cons_succ])
        refine wpAnyE_ready (rs := [6]) (by kernel_rfl) (by simp) ?_
        refine AllReadyE.consL rfl (fun K hK => ?_) AllReadyE.nil
        rw [if_pos (by rfl)]
        go_simp
        go_at_call 90
        refine (turned_any (sched b (t - 15)) 7 (by omega) _).mono ?_
        rintro e' w7 ⟨rfl, k7, hk7⟩
        have hmE := EW.drewN_ (q := q6) (t := t) hk7 HWc.out.lt
        have HPcnew := Lib.hid (HPc.out.mod0 (drewN_mod hk7)); clear HPc; have HPc := HPcnew; clear HPcnew
        have HWcnew := Lib.hid (HWc.out.mod (drewN_mod hk7)); clear HWc; have HWc := HWcnew; clear HWcnew
        clear hk7
        go_wp2_with fail
        refine hK.out _ _ (by first | exact hmE | exact Mod.refl _ _ | exact (Mod.refl _ _).alloc _) ?_
        clear hK
        (try simp only [Act.put, List.setIfInBounds_toArray, List.set_cons_zero, List.set_cons_succ])
        refine wpAnyE_ready (rs := [8]) (by kernel_rfl) (by simp) ?_
        refine AllReadyE.consL rfl (fun K hK => ?_) AllReadyE.nil
        rw [if_pos (by rfl)]
        go_simp
        go_at_call 90
        refine (turned_any (sched b (t - 15)) 18 (by omega) _).mono ?_
        rintro e' w8 ⟨rfl, k8, hk8⟩
        have hmE := EW.drewN_ (q := q6) (t := t) hk8 HWc.out.lt
        have HPcnew := Lib.hid (HPc.out.mod0 (drewN_mod hk8)); clear HPc; have HPc := HPcnew; clear HPcnew
        have HWcnew := Lib.hid (HWc.out.mod (drewN_mod hk8)); clear HWc; have HWc := HWcnew; clear HWcnew
        clear hk8
        go_wp2_with fail
        refine hK.out _ _ (by first | exact hmE | exact Mod.refl _ _ | exact (Mod.refl _ _).alloc _) ?_
        clear hK
        (try simp only [Act.put, List.setIfInBounds_toArray, List.set_cons_zero, List.set_cons_succ])
        refine wpAnyE_takeL (preEW _ _) 9 (v := ?_) rfl (by kernel_rfl) (by kernel_rfl) (by kernel_rfl) (fun _ _ _ h => h) (Or.inl ⟨by rfl, ?_⟩) ?_
        rotate_left; (intro W hW; (try dsimp only at hW); go_simp; try with_reducible rfl)
        (try simp only [Act.put, List.setIfInBounds_toArray, List.set_cons_zero, List.set_cons_succ])
        refine wpAnyE_takeL (preEW _ _) 12 (v := ?_) rfl (by kernel_rfl) (by kernel_rfl) (by kernel_rfl) (fun _ _ _ h => h) (Or.inl ⟨by rfl, ?_⟩) ?_
        rotate_left; (intro W hW; (try dsimp only at hW); go_simp; try with_reducible rfl)
        (try simp only [Act.put, List.setIfInBounds_toArray, List.set_cons_zero, List.set_cons_succ])
        refine wpAnyE_takeL (preEW _ _) 13 (v := ?_) rfl (by kernel_rfl) (by kernel_rfl) (by kernel_rfl) (fun _ _ _ h => h) (Or.inl ⟨by rfl, ?_⟩) ?_
        rotate_left; (intro W hW; (try dsimp only at hW); go_simp; try with_reducible rfl)
        (try simp only [Act.put, List.setIfInBounds_toArray, List.set_cons_zero, List.set_cons_succ])
        refine wpAnyE_takeL (preEW _ _) 18 (v := ?_) rfl (by kernel_rfl) (by kernel_rfl) (by kernel_rfl) (fun _ _ _ h => h) (Or.inl ⟨by rfl, ?_⟩) ?_
        rotate_left; (intro W hW; (try dsimp only at hW); go_simp; try with_reducible rfl)
        (try simp only [Act.put, List.setIfInBounds_toArray, List.set_cons_zero, List.set_cons_succ])
        refine wpAnyE_ready (rs := [20]) (by kernel_rfl) (by simp) ?_
        refine AllReadyE.consL rfl (fun K hK => ?_) AllReadyE.nil
        rw [if_pos (by rfl)]
        go_simp
        go_at_call 90
        refine (turned_any (sched b (t - 2)) 17 (by omega) _).mono ?_
        rintro e' w9 ⟨rfl, k9, hk9⟩
        have hmE := EW.drewN_ (q := q6) (t := t) hk9 HWc.out.lt
        have HPcnew := Lib.hid (HPc.out.mod0 (drewN_mod hk9)); clear HPc; have HPc := HPcnew; clear HPcnew
        have HWcnew := Lib.hid (HWc.out.mod (drewN_mod hk9)); clear HWc; have HWc := HWcnew; clear HWcnew
        clear hk9
        go_wp2_with fail
        refine hK.out _ _ (by first | exact hmE | exact Mod.refl _ _ | exact (Mod.refl _ _).alloc _) ?_
        clear hK
        (try simp only [Act.put, List.setIfInBounds_toArray, List.set_cons_zero, List.set_cons_succ])
        refine wpAnyE_ready (rs := [22]) (by kernel_rfl) (by simp) ?_
        refine AllReadyE.consL rfl (fun K hK => ?_) AllReadyE.nil
        rw [if_pos (by rfl)]
        go_simp
        go_at_call 90
        refine (turned_any (sched b (t - 2)) 19 (by omega) _).mono ?_
        rintro e' w10 ⟨rfl, k10, hk10⟩
        have hmE := EW.drewN_ (q := q6) (t := t) hk10 HWc.out.lt
        have HPcnew := Lib.hid (HPc.out.mod0 (drewN_mod hk10)); clear HPc; have HPc := HPcnew; clear HPcnew
        have HWcnew := Lib.hid (HWc.out.mod (drewN_mod hk10)); clear HWc; have HWc := HWcnew; clear HWcnew
        clear hk10
        go_wp2_with fail
        refine hK.out _ _ (by first | exact hmE | exact Mod.refl _ _ | exact (Mod.refl _ _).alloc _) ?_
        clear hK
        (try simp only [Act.put, List.setIfInBounds_toArray, List.set_cons_zero, List.set_cons_succ])
        refine wpAnyE_takeL (preEW _ _) 23 (v := ?_) rfl (by kernel_rfl) (by kernel_rfl) (by kernel_rfl) (fun _ _ _ h => h) (Or.inl ⟨by rfl, ?_⟩) ?_
        rotate_left; (intro W hW; (try dsimp only at hW); go_simp; try with_reducible rfl)
        (try simp only [Act.put, List.setIfInBounds_toArray, List.set_cons_zero, List.set_cons_succ])
        refine wpAnyE_takeL (preEW _ _) 26 (v := ?_) rfl (by kernel_rfl) (by kernel_rfl) (by kernel_rfl) (fun _ _ _ h => h) (Or.inl ⟨by rfl, ?_⟩) ?_
        rotate_left; (intro W hW; (try dsimp only at hW); go_simp; try with_reducible rfl)
        (try simp only [Act.put, List.setIfInBounds_toArray, List.set_cons_zero, List.set_cons_succ])
        refine wpAnyE_takeL (preEW _ _) 27 (v := ?_) rfl (by kernel_rfl) (by kernel_rfl) (by kernel_rfl) (fun _ _ _ h => h) (Or.inl ⟨by rfl, ?_⟩) ?_
        rotate_left; (intro W hW; (try dsimp only at hW); go_simp; try with_reducible rfl)
        (try simp only [Act.put, List.setIfInBounds_toArray, List.set_cons_zero, List.set_cons_succ])
        refine wpAnyE_takeL (preEW _ _) 28 (v := ?_) rfl (by kernel_rfl) (by kernel_rfl) (by kernel_rfl) (fun _ _ _ h => h) (Or.inl ⟨by rfl, ?_⟩) ?_
        rotate_left; (intro W hW; (try dsimp only at hW); go_simp; try with_reducible rfl)
        (try simp only [Act.put, List.setIfInBounds_toArray, List.set_cons_zero, List.set_cons_succ])
        refine wpAnyE_ready (rs := [29]) (by kernel_rfl) (by simp) ?_
        refine AllReadyE.consL rfl (fun K hK => ?_) AllReadyE.nil
        rw [if_pos (by rfl)]
        refine opwp_of_list rfl (fun Q' hQ' => ?_)
        refine wpList_store_w64 (f := sched b) _ _ rfl (by rfl) (by rfl) (by rfl) HWc.out ht64 (sched_hi b t (by omega)).symm ?_
        intro w11 hw11 hm11
        refine hQ' _ _ ?_
        have hmE : EW q6 t _ w11 := ⟨hm11, fun i hi => by rw [HWc.out.cell hi, hw11.cell (by omega)]⟩
        have HW9 := Lib.hid hw11
        have HP9 := Lib.hid (HPc.out.mod hm11)
        refine hK.out _ _ (by first | exact hmE | exact Mod.refl _ _ | exact (Mod.refl _ _).alloc _) ?_
        clear hK
        (try simp only [Act.put, List.setIfInBounds_toArray, List.set_cons_zero, List.set_cons_succ])
        refine wpAnyE_done (by kernel_rfl) ?_ _
        go_wp2_with fail
        exact ⟨⟨t + 1, by simp, by omega, HP9, HW9⟩, by simp [intOf]; omega⟩
    · have HW64 : Hid (W64 wr q6 (sched b) 64) := Lib.hid (by have h := HW1.out; rwa [show t = 64 by omega] at h)
      have htj : ¬ (t : Int) < 64 := by omega
      have hcells : ∀ j (h : j < 8), wr.cell? ⟨q2, j, none⟩ = some (s.cells[j]'(by simpa [St8.cells] using h)) := fun j h => by rw [HP1.out.b2.cell]; simp [St8.cells, h]
      have e0 := hcells 0 (by omega)
      have e1 := hcells 1 (by omega)
      have e2 := hcells 2 (by omega)
      have e3 := hcells 3 (by omega)
      have e4 := hcells 4 (by omega)
      have e5 := hcells 5 (by omega)
      have e6 := hcells 6 (by omega)
      have e7 := hcells 7 (by omega)
      clear hcells
      simp only [St8.cells, List.getElem_cons_zero, List.getElem_cons_succ] at e0 e1 e2 e3 e4 e5 e6 e7
      go_wp2_with fail
      go_quiet (fail)
      go_wp2_with fail
      clear ht ht64 hA hA3 hA5 HW1
      go_loopw [10, 11, 12, 13, 14, 15, 16, 17, 116] (fun s10 s11 s12 s13 s14 s15 s16 s17 s116 wq => ∃ (t : Nat) (x : St8), s10 = uv x.a ∧ s11 = uv x.b ∧ s12 = uv x.c ∧ s13 = uv x.d ∧ s14 = uv x.e ∧ s15 = uv x.f ∧ s16 = uv x.g ∧ s17 = uv x.h ∧ s116 = .int .i64 (t : Int) ∧ t ≤ 64 ∧ Hid (x = rnds b s t) ∧ Hid (Mod [] wr wq)) (fun _ _ _ _ _ _ _ _ s _ => 64 - (intOf s).toNat)
      case atStart => exact ⟨0, s, rfl, rfl, rfl, rfl, rfl, rfl, rfl, rfl, rfl, by omega, Lib.hid rfl, Lib.hid (Mod.of_drewN [] _ _)⟩
      case round =>
        obtain ⟨t, x, rfl, rfl, rfl, rfl, rfl, rfl, rfl, rfl, rfl, ht, HX, HM⟩ := hrel
        by_cases ht64 : t < 64
        · have hti : (t : Int) < 64 := by omega
          have hk : ∀ n, (World.drewN _ n).cell? ⟨q5, t, none⟩ = some (uv (kc t)) := fun n => ((HP1.out.b5.mod HM.out (by simp)).cell t).trans (kc_cell t ht64)
          have hw : ∀ n, (World.drewN _ n).cell? ⟨q6, t, none⟩ = some (uv (sched b t)) := fun n => (HW64.out.mod HM.out).cell ht64
          have hsg : IntKind.u32.signed = false := rfl
          clear e0 e1 e2 e3 e4 e5 e6 e7
          go_wp2_with fail
          go_quiet ((go_at_call 90; exact quiet_k (turnedI _ _ (by decide) _)))
          go_wp2_with fail
          refine (turnedI _ _ (by decide) _).mono ?_
          rintro e' w21 ⟨rfl, k21, rfl⟩
          go_wp2_with fail
          refine (turnedI _ _ (by decide) _).mono ?_
          rintro e' w22 ⟨rfl, k22, rfl⟩
          go_wp2_with fail
          refine (turnedI _ _ (by decide) _).mono ?_
          rintro e' w23 ⟨rfl, k23, rfl⟩
          go_wp2_with fail
          exact ⟨⟨t + 1, rnd (kc t) (sched b t) x, rfl, rfl, rfl, rfl, rfl, rfl, rfl, rfl, by simp, by omega, Lib.hid (by rw [HX.out]; rfl), Lib.hid (HM.out.drewN _)⟩, by simp [intOf]; omega⟩
        · obtain rfl : t = 64 := by omega
          have hc := fun i => (HP1.out.b2.mod HM.out (by simp)).cell i
          have f0 := (hc 0).trans (HP1.out.b2.cell 0).symm |>.trans e0
          have f1 := (hc 1).trans (HP1.out.b2.cell 1).symm |>.trans e1
          have f2 := (hc 2).trans (HP1.out.b2.cell 2).symm |>.trans e2
          have f3 := (hc 3).trans (HP1.out.b2.cell 3).symm |>.trans e3
          have f4 := (hc 4).trans (HP1.out.b2.cell 4).symm |>.trans e4
          have f5 := (hc 5).trans (HP1.out.b2.cell 5).symm |>.trans e5
          have f6 := (hc 6).trans (HP1.out.b2.cell 6).symm |>.trans e6
          have f7 := (hc 7).trans (HP1.out.b2.cell 7).symm |>.trans e7
          have HB4 := Lib.hid (HP1.out.b4.mod HM.out (by simp))
          have HMW := Lib.hid (HP1.out.md.trans HM.out)
          have hq4 := HP1.out.ne.2.1
          clear e0 e1 e2 e3 e4 e5 e6 e7 hc HP1 HW64
          go_wp2_with (first | ((with_reducible refine wpList_store_blk rtW8 (cells := (addS s x).cells) _ _ rfl ?hgd ?hx ?hy HB4.out rfl ?hold (St8.one _) ?_); (case hgd => exact rfl); (case hx => exact rfl); (case hy => exact rfl); (case hold => exact rfl); intro w25 hb25 hm25; have HB25 := Lib.hid hb25; have HM25 := Lib.hid (HMW.out.then hm25 (by simp; omega))))
          exact bodyPost_ret (results_row rtW8 rfl rfl HB25.out rfl) rfl ⟨by rw [HX.out]; rfl, HM25.out⟩
end Go.Proofs.Ytlpjeckhejbkkaa
end

section
set_option linter.unusedVariables false
set_option linter.unusedSimpArgs false
set_option maxRecDepth 20000
set_option maxHeartbeats 800000
namespace Go.Proofs.Ytlpjeckhejbkkaa
open Go.RowKit

/-! ### what is absorbed: plain -/
def blkN : Nat → St8 → Bytes → St8
  | 0, s, _ => s
  | k + 1, s, m => blkN k (pieceSt s (m.take 64)) (m.drop 64)
theorem blkN_succ (k : Nat) : ∀ (s : St8) (m : Bytes), blkN (k + 1) s m = pieceSt (blkN k s m) ((m.drop (64 * k)).take 64) := by
  induction k with
  | zero => intro s m; simp [blkN]
  | succ k ih =>
    intro s m
    rw [blkN, ih, blkN, List.drop_drop]
    congr 3
    omega
theorem blkN_append (k : Nat) : ∀ (s : St8) (m z : Bytes), 64 * k ≤ m.length → blkN k s (m ++ z) = blkN k s m := by
  induction k with
  | zero => intro s m z _; rfl
  | succ k ih =>
    intro s m z h
    rw [blkN, blkN, List.take_append_of_le_length (by omega), List.drop_append_of_le_length (by omega), ih _ _ _ (by simp; omega)]
def shaSt (m : Bytes) : St8 := blkN (m.length / 64) shaIV m
def restOf (m : Bytes) : Bytes := m.drop (64 * (m.length / 64))
theorem restOf_len (m : Bytes) : (restOf m).length = m.length % 64 := by unfold restOf; rw [List.length_drop]; omega
theorem sha_more (m z : Bytes) (h : m.length % 64 + z.length < 64) : shaSt (m ++ z) = shaSt m ∧ restOf (m ++ z) = restOf m ++ z := by
  have e : (m ++ z).length / 64 = m.length / 64 := by rw [List.length_append]; omega
  unfold shaSt restOf
  rw [e, blkN_append _ _ _ _ (by omega), List.drop_append_of_le_length (by omega)]
  exact ⟨rfl, rfl⟩
theorem sha_fill (m z : Bytes) (h : m.length % 64 + z.length = 64) : shaSt (m ++ z) = pieceSt (shaSt m) (restOf m ++ z) ∧ (m ++ z).length % 64 = 0 := by
  have e : (m ++ z).length / 64 = m.length / 64 + 1 := by rw [List.length_append]; omega
  refine ⟨?_, by rw [List.length_append]; omega⟩
  unfold shaSt restOf
  rw [e, blkN_succ, blkN_append _ _ _ _ (by omega), List.drop_append_of_le_length (by omega), List.take_of_length_le]
  rw [List.length_append, List.length_drop]; omega
theorem restOf_full (m : Bytes) (h : m.length % 64 = 0) : restOf m = [] := List.eq_nil_of_length_eq_zero (by rw [restOf_len, h])
/-! ### a digest in memory -/
def dcells (s : St8) (buf : Bytes) (n : Nat) : List Value := s.cells ++ (buf.map bv ++ [.int .i64 n])
theorem dcells_len (s : St8) (buf : Bytes) (n : Nat) (h : buf.length = 64) : (dcells s buf n).length = 73 := by simp [dcells, St8.cells, h]
theorem dcells_one (s : St8) (buf : Bytes) (n : Nat) : ∀ u ∈ dcells s buf n, u.oneCell' = true := by
  intro u hu
  rcases List.mem_append.1 hu with h | h
  · exact s.one u h
  · rcases List.mem_append.1 h with h | h
    · obtain ⟨x, _, rfl⟩ := List.mem_map.1 h; rfl
    · rw [List.mem_singleton] at h; subst h; rfl
def DG (w : World) (p : Nat) (s : St8) (buf : Bytes) (n : Nat) : Prop := buf.length = 64 ∧ Blk w p 142 (dcells s buf n).toArray
section
variable {w w' : World} {p n : Nat} {s : St8} {buf : Bytes} {S : List Nat}
theorem DG.mod (h : DG w p s buf n) (hm : Mod S w w') (hp : p ∉ S) : DG w' p s buf n := ⟨h.1, h.2.mod hm hp⟩
theorem DG.blk (h : DG w p s buf n) : Blk w p 142 (dcells s buf n).toArray := h.2
theorem DG.len (h : DG w p s buf n) : (dcells s buf n).length = 73 := dcells_len _ _ _ h.1
theorem DG.lt (h : DG w p s buf n) : p < w.heap.size := h.2.lt
theorem DG.cellN (h : DG w p s buf n) : w.cell? ⟨p, 72, none⟩ = some (.int .i64 n) := by
  rw [h.2.cell, List.getElem?_toArray, dcells, List.getElem?_append_right (by simp [St8.cells]), List.getElem?_append_right (by simp [St8.cells, h.1])]
  simp [St8.cells, h.1]
theorem DG.frozen (h : DG w p s buf n) : w.frozen? ⟨p, 72, none⟩ = false := h.2.frozen _
theorem DG.setN (h : DG w p s buf n) (k : Nat) : DG (w.setCell ⟨p, 72, none⟩ (.int .i64 k)) p s buf k := by
  refine ⟨h.1, ?_⟩
  have h1 := h.2.set_ 72 (.int .i64 k)
  have e : (dcells s buf n).toArray.setIfInBounds 72 (.int .i64 (k : Int)) = (dcells s buf k).toArray := by
    rw [List.setIfInBounds_toArray, dcells, List.set_append_right _ _ (by simp [St8.cells]), List.set_append_right _ _ (by simp [St8.cells, h.1])]
    simp [St8.cells, h.1, dcells]
  rwa [e] at h1
theorem DG.state (h : DG w p s buf n) : CellsAt w p 0 s.cells := by
  have h1 := (CellsAt.of_blk h.2).part 0 8
  have e : ((dcells s buf n).drop 0).take 8 = s.cells := by simp [dcells, St8.cells]
  rwa [e, Nat.add_zero] at h1
theorem DG.buffer (h : DG w p s buf n) : BS w p (.slice (some ⟨p, 8, none⟩) 64 64) buf := by
  have h1 := (CellsAt.of_blk h.2).part 8 64
  have e : ((dcells s buf n).drop 8).take 64 = buf.map bv := by
    rw [dcells, List.drop_append_of_le_length (by simp [St8.cells])]
    rw [show s.cells.drop 8 = [] from rfl, List.nil_append, List.take_append_of_le_length (by simp [h.1]), List.take_of_length_le (by simp [h.1])]
  rw [e] at h1
  refine ⟨by simp, some ⟨p, 8, none⟩, 64, ?_, by rw [h.1]; omega, by decide, fun _ => ⟨8, rfl, h.lt, fun i u hu => ?_⟩⟩
  · rw [h.1]
  · have := h1 i u hu
    simpa using this
theorem splice_dcells (s : St8) (buf : Bytes) (n r : Nat) (z : Bytes) (hb : buf.length = 64) (h : r + z.length ≤ 64) : splice (dcells s buf n) (8 + r) (z.map bv) = dcells s (splice buf r z) n := by
  unfold splice dcells
  have h8 : s.cells.length = 8 := rfl
  rw [List.take_append, List.drop_append, h8, List.take_of_length_le (by rw [h8]; omega), List.drop_eq_nil_of_le (by rw [h8]; simp; omega), List.nil_append,
    List.take_append_of_le_length (by simp; omega), List.drop_append_of_le_length (by simp; omega)]
  simp only [List.map_append, List.map_take, List.map_drop, List.length_map, List.append_assoc]
  rw [show 8 + r - 8 = r by omega, show 8 + r + z.length - 8 = r + z.length by omega]
end
theorem splice_take {α : Type} (L : List α) (r : Nat) (z : List α) (h : r ≤ L.length) : (splice L r z).take (r + z.length) = L.take r ++ z := by
  unfold splice
  rw [← List.append_assoc, List.take_append_of_le_length (by simp; omega), List.take_of_length_le (by simp; omega)]
def Abs (w : World) (p : Nat) (m : Bytes) : Prop := ∃ buf, DG w p (shaSt m) buf m.length ∧ buf.take (m.length % 64) = restOf m
theorem Abs.mod {w w' : World} {p : Nat} {m : Bytes} {S : List Nat} (h : Abs w p m) (hm : Mod S w w') (hp : p ∉ S) : Abs w' p m := by
  obtain ⟨buf, h1, h2⟩ := h
  exact ⟨buf, h1.mod hm hp, h2⟩
theorem Abs.lt {w : World} {p : Nat} {m : Bytes} (h : Abs w p m) : p < w.heap.size := by
  obtain ⟨buf, h1, _⟩ := h
  exact h1.lt
theorem Abs.nil {w : World} {p : Nat} {buf : Bytes} (h : DG w p shaIV buf 0) : Abs w p [] := ⟨buf, h, rfl⟩
/-! ### copy into a block -/
theorem wpList_copy_mod {P : Program} {w : World} {ops : Array Oper} {rest : List Oper} {o : Oper} {a : Act} {Q : Exit → Act → World → Prop} (hgd : o.guard = none) (d s : Operand) (dT sT : TypeId)
    (ho : o.op = .call { callee := .builtin .copy, args := #[d, s], argTypes := #[dT, sT] }) (elem : TypeId) (hu : P.underlying dT = some (.slice elem)) (hsz : (P.info? elem).map (·.size) = some 1)
    {g off dLen dCap sLen sCap : Nat} {sp : Option Addr} (hd : a.eval d = .slice (some ⟨g, off, none⟩) dLen dCap) (hs : a.eval s = .slice sp sLen sCap)
    {cur : List Value} {t : TypeId} (hb : Blk w g t cur.toArray) (cs : List Value) (hn : cs.length = Nat.min sLen dLen)
    (hsrc : 0 < cs.length → ∃ ad, sp = some ad ∧ ∀ j v, cs[j]? = some v → w.cell? (ad.add j) = some v)
    (hfit : off + cs.length ≤ cur.length) (h1 : ∀ v ∈ cs, v.oneCell' = true)
    (h : ∀ w', Blk w' g t (splice cur off cs).toArray → Mod [g] w w' → wpList P ops Q rest (a.put o.dst (goInt cs.length)) w') : wpList P ops Q (o :: rest) a w := by
  by_cases h0 : cs.length = 0
  · obtain rfl : cs = [] := List.eq_nil_of_length_eq_zero h0
    refine wpList_copy_nothing hgd d s dT sT ho elem hu hsz _ sp dLen dCap sLen sCap hd hs (by simpa using hn.symm) ?_
    exact h w (by simpa [splice] using hb) (Mod.refl _ _)
  · obtain ⟨ad, rfl, hsrc'⟩ := hsrc (by omega)
    refine wpList_copy_own hgd d s dT sT ho elem hu hsz g off dLen dCap ad sLen sCap hd hs cur.toArray t hb cs hn hsrc' (by simpa using hfit) h1 ?_
    exact h _ (show _ = _ by simpa [splice] using setRow_heap w g _ _ t _ hb) ((Mod.refl [g] w).setRow g _ (by simp))
/-- copy of bytes into a digest's buffer -/
theorem wpList_copy_dg {w : World} {ops : Array Oper} {rest : List Oper} {o : Oper} {a : Act} {Q : Exit → Act → World → Prop} (hgd : o.guard = none) (d s : Operand)
    (ho : o.op = .call { callee := .builtin .copy, args := #[d, s], argTypes := #[27, 27] })
    {p n r dCap g c : Nat} {st : St8} {buf z : Bytes} {v : Value} (hc : min (64 - r) z.length = c) (hd : a.eval d = .slice (some ⟨p, 8 + r, none⟩) (64 - r) dCap) (hs : a.eval s = v)
    (hb : DG w p st buf n) (hz : BS w g v z) (hr : r ≤ 64)
    (h : ∀ w', DG w' p st (splice buf r (z.take (64 - r))) n → Mod [p] w w' → wpList Try.prog ops Q rest (a.put o.dst (goInt (c : Int))) w') : wpList Try.prog ops Q (o :: rest) a w := by
  obtain ⟨_, A, cap, rfl, hc1, hc2, hf⟩ := hz
  have hl : ((z.take (64 - r)).map bv).length = min (64 - r) z.length := by simp
  refine wpList_copy_mod hgd d s _ _ ho 5 (by kernel_rfl) (by kernel_rfl) hd hs hb.2 ((z.take (64 - r)).map bv) (by rw [hl, Nat.min_comm]) (fun h0 => ?_) (by rw [hl, dcells_len _ _ _ hb.1]; omega) (bv_one _) ?_
  · obtain ⟨off, hA, hlt, hcell⟩ := hf (by rw [hl] at h0; omega)
    refine ⟨_, hA, fun j u hu => ?_⟩
    have e : (⟨g, off, none⟩ : Addr).add j = ⟨g, off + j, none⟩ := by unfold Addr.add; split <;> simp_all
    rw [e]
    refine hcell j u ?_
    rw [List.map_take, List.getElem?_take] at hu
    split at hu
    · exact hu
    · cases hu
  · intro w' hb' hm
    rw [splice_dcells _ _ _ _ _ hb.1 (by simp; omega)] at hb'
    rw [hl, hc]
    exact h w' ⟨by rw [length_splice _ _ _ (by simp [hb.1]; omega)]; exact hb.1, hb'⟩ hm
theorem opwp_load_cells {P : Program} {ty : TypeId} {sz : Nat} (E : RowT P ty sz) {op : Oper} {a : Act} {w : World} {K : Act → World → Prop} {Q : Exit → Act → World → Prop} (x : Operand) (ho : op.op = .load ty x) {b o : Nat} (hx : a.eval x = .pointer (some ⟨b, o, none⟩)) {cs : List Value} (hl : cs.length = sz) (hc : CellsAt w b o cs)
    (h : K (a.put op.dst (.agg cs.toArray)) w) : op.wp P a w K Q := by
  have hr := run_load_cells E x ho hx hl hc
  unfold Oper.wp
  simp only [hr]
  exact h
theorem opwp_store_dg {op : Oper} {a : Act} {w : World} {K : Act → World → Prop} {Q : Exit → Act → World → Prop} (hgd : op.guard = none) (x y : Operand) (ho : op.op = .store 138 x y) {p n : Nat} {s s' : St8} {buf : Bytes} (hx : a.eval x = .pointer (some ⟨p, 0, none⟩)) (hy : a.eval y = .agg s'.cells.toArray)
    (hd : DG w p s buf n) (h : ∀ w', DG w' p s' buf n → Mod [p] w w' → K (a.put op.dst undef) w') : op.wp Try.prog a w K Q := by
  refine opwp_of_list hgd (fun Q' hQ' => ?_)
  refine wpList_store_part rtW8 x y ho (by simp [Region.wanted, hgd]) hx hy hd.2 rfl (by simp [dcells_len _ _ _ hd.1]) s'.one ?_
  intro w' hb hm
  refine hQ' _ _ (h w' ⟨hd.1, ?_⟩ hm)
  simpa [dcells, St8.cells] using hb
theorem Abs.more {w : World} {p r N : Nat} {m z mz buf : Bytes} (he : m ++ z = mz) (hr : m.length % 64 = r) (hl : r + z.length < 64) (hb : buf.length = 64) (h0 : buf.take r = restOf m) (hN : mz.length = N) (hd : DG w p (shaSt m) (splice buf r z) N) : Abs w p mz := by
  subst he; subst hN
  obtain ⟨h1, h2⟩ := sha_more m z (by omega)
  refine ⟨_, by rw [h1]; exact hd, ?_⟩
  rw [h2, ← h0]
  have e : (m ++ z).length % 64 = r + z.length := by rw [List.length_append]; omega
  rw [e, splice_take _ _ _ (by omega)]
theorem splice_fill {m z buf : Bytes} {r : Nat} (hr : m.length % 64 = r) (hr64 : r < 64) (hz : 64 - r ≤ z.length) (hb : buf.length = 64) (h0 : buf.take r = restOf m) : splice buf r (z.take (64 - r)) = restOf m ++ z.take (64 - r) := by
  have hl : (z.take (64 - r)).length = 64 - r := by simp; omega
  have h1 := splice_take buf r (z.take (64 - r)) (by omega)
  have h2 : (splice buf r (z.take (64 - r))).length = 64 := by rw [length_splice _ _ _ (by omega)]; exact hb
  rw [List.take_of_length_le (by omega), h0] at h1
  exact h1
theorem BS.after {w : World} {g off cap k : Nat} {xs : Bytes} (h : BS w g (.slice (some ⟨g, off, none⟩) xs.length cap) xs) (hk : k ≤ xs.length) : BS w g (.slice (some ⟨g, off + k, none⟩) (xs.drop k).length (cap - k)) (xs.drop k) := by
  obtain ⟨A1, cap1, hv, h4, h5⟩ := h.val
  injection hv with h1 h2 h3
  subst h3
  have := BS.part (lo := k) (n := xs.length - k) (c' := cap - k) (A' := some ⟨g, off + k, none⟩) h (by omega) (by omega) (by omega) (by intro _; simp [Addr.add])
  rw [List.take_of_length_le (by simp)] at this
  rw [List.length_drop]
  exact this
theorem BS.done {w : World} {g k : Nat} {A : Option Addr} {xs : Bytes} (hk : xs.length ≤ k) : BS w g (.slice A (xs.drop k).length 0) (xs.drop k) := by
  rw [List.drop_eq_nil_of_le hk]
  exact ⟨by simp, A, 0, rfl, by simp, by decide, fun h => absurd h (by simp)⟩
def vlen : Value → Nat
  | .slice _ n _ => n
  | _ => 0
end Go.Proofs.Ytlpjeckhejbkkaa
end
