import Derived.Test.YtlpjeckhejbkkaaOut2
set_option linter.unusedVariables false
set_option linter.unusedSimpArgs false
set_option maxRecDepth 20000
set_option maxHeartbeats 400000
namespace Go.Proofs.Ytlpjeckhejbkkaa
open Go.RowKit

theorem lay_any (p : Nat) (F : List Nat) (xs : Bytes) (s : ByteArray) (w : World) (hO : OutB w p F xs) (hs : s.size < 18446744073709551616) (hz : xs.length + s.size ≤ 180000000000000) :
    Calls Try.prog 81 #[ptr p, .string s] w (OutP w p F (xs ++ putText s)) := by
  have HL : Hid ((putNum s.size).length ≤ 10) := Lib.hid (putNum_length10 _ hs)
  have hnum := outNumber_any p F xs s.size w hO hs (by omega)
  have HN := Lib.hid hnum; clear hnum hO hs
  go_enter Try.func81, Try.ntmps81
  go_wp2_with fail
  refine HN.out.mono ?_
  rintro e' w1 ⟨rfl, F1, hO1, hm1, hf1⟩
  obtain ⟨A, n, cap, h0, f0, hl, HN1, HO⟩ := hO1.open_
  have HM1 := Lib.hid hm1; clear hm1
  have HF1 := Lib.hid hf1; clear hf1 hO1
  go_wp2_with (at_builtin; refine wpList_append_string rfl _ _ rfl HO.out.2.1 rfl rfl ?_ ?hz; intro A1 n1 cap1 w2 hown2 hn2 hm2 HF2; have hb2 := HO.out.1.mod hm2 (own_ne HO.out.2.1 HO.out.1 (by decide)); have c1 : w2.cell? ⟨p, 0, none⟩ = some (.slice A n cap) := hb2.cell 0; have f1 := hb2.frozen 0; have HO2 := Lib.hid hown2; have HM2 := Lib.hid hm2; clear hown2 hb2 hm2)
  case hz => have := HL.out; rw [List.length_append]; omega
  go_end0
  have hs := out_step HO.out.1 HO.out.2.1 HO.out.2.2.1 HO.out.2.2.2 HO2.out HM2.out (fun b hb => (HF2.out b hb).imp id (by omega))
  rw [List.append_assoc] at hs
  exact ⟨rfl, _, hs.1, HM1.out.fresh HF1.out hs.2.1, HF1.out.trans hs.2.2 HM1.out.size⟩
theorem outText_any (p : Nat) (F : List Nat) (xs : Bytes) (s : ByteArray) (w : World) (hO : OutB w p F xs) (hs : s.size < 18446744073709551616) (hz : xs.length + s.size ≤ 180000000000000) :
    Calls Try.prog 62 #[ptr p, .string s] w (OutP w p F (xs ++ putText s)) := by
  have hlay := lay_any p F xs s w hO hs hz
  have HN := Lib.hid hlay; clear hlay hO hs
  go_enter Try.func62, Try.ntmps62
  go_wp2_with fail
  refine HN.out.mono ?_
  rintro e' w1 ⟨rfl, h1⟩
  go_wp2
  go_end0
  exact ⟨rfl, h1⟩
def DoneP (w : World) (xs : Bytes) (e' : Ending) (w' : World) : Prop :=
  ∃ v, e' = .returned v ∧ OwnB w' v xs ∧ Mod [] w w' ∧ ∀ b ∈ blks v, w.heap.size ≤ b
theorem outDone_any (p : Nat) (F : List Nat) (xs : Bytes) (w : World) (hO : OutB w p F xs) (hz : xs.length ≤ 180000000000000) :
    Calls Try.prog 44 #[ptr p] w (DoneP w xs) := by
  obtain ⟨A, n, cap, h0, f0, hl, HN1, HO⟩ := hO.open_
  obtain ⟨g, hbs, hg⟩ := HO.out.2.1.bs
  have HS := Lib.hid hbs; clear hbs hO
  go_enter Try.func44, Try.ntmps44
  go_wp2_with (at_builtin; refine wpList_append_bytes rfl _ _ rfl (OwnB.nil w) rfl HS.out rfl ?_ ?hz; intro A1 n1 cap1 w2 hown2 hn2 hm2 HF2)
  case hz => simp; omega
  go_ret
  refine ⟨_, rfl, by simpa using hown2, hm2.mono (by simp [blks, Value.ownBlock]), fun b hb => ?_⟩
  rcases HF2.out b hb with h | h
  · simp [blks, Value.ownBlock] at h
  · omega
theorem outSigned_any (p : Nat) (F : List Nat) (xs : Bytes) (x : Int) (w : World) (hO : OutB w p F xs) (hx0 : -9223372036854775808 ≤ x) (hx1 : x ≤ 9223372036854775807) (hz : xs.length ≤ 180000000000000) :
    Calls Try.prog 96 #[ptr p, .int .i64 x] w (OutP w p F (xs ++ putNum (zig x))) := by
  obtain ⟨hb, hlt⟩ := zig_bits x hx0 hx1
  have hnum := outNumber_any p F xs (zig x) w hO hlt (by omega)
  rw [← hb] at hnum
  have HN := Lib.hid hnum; clear hnum hb hlt
  have HA := Lib.hid hx0; clear hx0
  have HB := Lib.hid hx1; clear hx1
  go_enter Try.func96, Try.ntmps96
  go_wp2_with fail
  refine HN.out.mono ?_
  rintro e' w1 ⟨rfl, h1⟩
  go_wp2
  go_end0
  exact ⟨rfl, h1⟩
theorem outHash_any (p : Nat) (F : List Nat) (xs : Bytes) (h : GHash) (w : World) (hO : OutB w p F xs) (hz : xs.length ≤ 180000000000000) :
    Calls Try.prog 42 #[ptr p, h.val] w (OutP w p F (xs ++ h.l)) := by
  obtain ⟨A, n, cap, h0, f0, hl, HN1, HO⟩ := hO.open_
  unfold GHash.val
  have hb0 := Blk.new w 46 h.cells.toArray
  have hs0 : BS (w.alloc (.cells h.cells.toArray 46)) w.heap.size (.slice (some ⟨w.heap.size, 0, none⟩) 32 32) h.l := by
    refine ⟨by simp [h.h], _, 32, by rw [h.h], by rw [h.h]; omega, by decide, fun _ => ⟨0, rfl, by simp, fun i u hu => ?_⟩⟩
    rw [Nat.zero_add, hb0.cell i]
    simpa [GHash.cells] using hu
  have ho0 : OwnB (w.alloc (.cells h.cells.toArray 46)) (.slice A n cap) xs := HO.out.2.1.mod ((Mod.refl [] w).alloc _) (by simp)
  have HS := Lib.hid (hs0.mod (Mod.refl [] _).drew (by simp)); clear hs0
  have HO0 := Lib.hid (ho0.mod (Mod.refl [] _).drew (by simp)); clear ho0 hb0 hO
  have hz1 : xs.length + h.l.length ≤ 200000000000000 := by have := h.h; omega
  have HZ := Lib.hid hz1; clear hz1 hz
  go_enter Try.func42, Try.ntmps42
  go_wp2_with fail
  go_region_law ((refine step_append_bytes rfl _ _ (by rfl) HO0.out (by rfl) HS.out (by rfl) ?_ HZ.out; intro A1 n1 cap1 w1 hown1 hn1 hm1 HF1; have hm0 : Mod (blks (.slice A n cap)) w w1 := (((Mod.refl _ w).alloc _).drew).trans hm1; have hb1 := HO.out.1.mod hm0 (own_ne HO.out.2.1 HO.out.1 (by decide)); have c1 : w1.cell? ⟨p, 0, none⟩ = some (.slice A n cap) := hb1.cell 0; have f1 := hb1.frozen 0; have HO1 := Lib.hid hown1; have HM1 := Lib.hid hm0; clear hown1 hb1 hm1 hm0))
  go_wp2
  go_end0
  have hs := out_step HO.out.1 HO.out.2.1 HO.out.2.2.1 HO.out.2.2.2 HO1.out HM1.out (fun b hb => (HF1.out b hb).imp id (by simp; omega))
  exact ⟨rfl, _, hs⟩
end Go.Proofs.Ytlpjeckhejbkkaa
