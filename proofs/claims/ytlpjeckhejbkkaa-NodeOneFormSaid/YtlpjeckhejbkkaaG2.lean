import Derived.Test.YtlpjeckhejbkkaaG1
section
set_option linter.unusedVariables false
set_option linter.unusedSimpArgs false
set_option maxRecDepth 20000
set_option maxHeartbeats 400000
namespace Go.Proofs.Ytlpjeckhejbkkaa
open Go.RowKit

/-- what is laid: its struct, its bytes; F: all blocks that it may write -/
def OutB (w : World) (p : Nat) (F : List Nat) (xs : Bytes) : Prop :=
  ∃ v, Blk w p 110 #[v] ∧ OwnB w v xs ∧ (∀ b ∈ blks v, b ∈ F) ∧ p ∈ F ∧ ∀ b ∈ F, b < w.heap.size
theorem OutB.mod {w w' : World} {p : Nat} {F S : List Nat} {xs : Bytes} (h : OutB w p F xs) (hm : Mod S w w') (hd : ∀ b ∈ F, b ∉ S) : OutB w' p F xs := by
  obtain ⟨v, hb, ho, hF, hp⟩ := h
  exact ⟨v, hb.mod hm (hd p hp.1), ho.mod hm (fun b hb => hd b (hF b hb)), hF, hp.1, fun b hb => Nat.lt_of_lt_of_le (hp.2 b hb) hm.size⟩
def Fresh (w : World) (F F' : List Nat) : Prop := ∀ b ∈ F', b ∈ F ∨ w.heap.size ≤ b
theorem Fresh.refl (w : World) (F : List Nat) : Fresh w F F := fun _ h => .inl h
theorem Fresh.trans {w w' : World} {F F' F'' : List Nat} (h : Fresh w F F') (k : Fresh w' F' F'') (hs : w.heap.size ≤ w'.heap.size) : Fresh w F F'' := fun b hb => by
  rcases k b hb with h1 | h1
  · exact h b h1
  · right; omega
theorem Mod.fresh {w a b : World} {F F' : List Nat} (h : Mod F w a) (hf : Fresh w F F') (k : Mod F' a b) : Mod F w b := h.then k hf
def OutP (w : World) (p : Nat) (F : List Nat) (xs : Bytes) (e' : Ending) (w' : World) : Prop :=
  e' = .returned (.tuple #[]) ∧ ∃ F', OutB w' p F' xs ∧ Mod F w w' ∧ Fresh w F F'

theorem newOut_any (w : World) : Calls Try.prog 39 #[] w fun e' w' => e' = .returned (ptr w.heap.size) ∧ OutB w' w.heap.size [w.heap.size] [] ∧ Mod [] w w' := by
  go_enter Try.func39, Try.ntmps39
  go_wp2
  go_ret
  exact ⟨rfl, ⟨.slice none 0 0, Blk.new w _ _, OwnB.nil _, by simp [blks, Value.ownBlock], by simp, by simp⟩, (Mod.refl [] w).alloc _⟩
theorem out_step {w w1 : World} {p : Nat} {F : List Nat} {v v1 : Value} {xs zs : Bytes} (hb : Blk w p 110 #[v]) (ho : OwnB w v xs) (hF : ∀ b ∈ blks v, b ∈ F) (hp : p ∈ F ∧ ∀ b ∈ F, b < w.heap.size)
    (h1 : OwnB w1 v1 zs) (hm : Mod (blks v) w w1) (hf : ∀ b ∈ blks v1, b ∈ blks v ∨ w.heap.size ≤ b) :
    OutB (w1.setCell ⟨p, 0, none⟩ v1) p (F ++ blks v1) zs ∧ Mod F w (w1.setCell ⟨p, 0, none⟩ v1) ∧ Fresh w F (F ++ blks v1) := by
  have hpv : p ∉ blks v := own_ne ho hb (by decide)
  have hb1 := hb.mod hm hpv
  have hp1 : p ∉ blks v1 := own_ne h1 hb1 (by decide)
  refine ⟨⟨v1, hb1.set_ 0 _, h1.mod ((Mod.refl [p] w1).setCell _ (by simp) _) ?_, fun b hb => by simp [hb], by simp [hp.1], ?_⟩, (hm.mono fun i hi _ => hF i hi).setCell _ (.inl hp.1) _, fun b hb => ?_⟩
  · intro b hbv hbp
    simp only [List.mem_singleton] at hbp
    subst hbp
    exact hp1 hbv
  · intro b hb
    have hsz : (w1.setCell ⟨p, 0, none⟩ v1).heap.size = w1.heap.size := by simp [World.setCell]
    rw [hsz]
    rcases List.mem_append.1 hb with h | h
    · exact Nat.lt_of_lt_of_le (hp.2 b h) hm.size
    · exact h1.lt b h
  · rcases List.mem_append.1 hb with h | h
    · exact .inl h
    · rcases hf b h with h2 | h2
      · exact .inl (hF b h2)
      · exact .inr h2
theorem OutB.lt {w : World} {p : Nat} {F : List Nat} {xs : Bytes} (h : OutB w p F xs) : p < w.heap.size := by
  obtain ⟨v, hb, _⟩ := h
  exact hb.lt
theorem OutB.all {w : World} {p : Nat} {F : List Nat} {xs : Bytes} (h : OutB w p F xs) : ∀ b ∈ F, b < w.heap.size := by
  obtain ⟨_, _, _, _, _, h⟩ := h
  exact h
/-- its parts, for a walk -/
theorem OutB.open_ {w : World} {p : Nat} {F : List Nat} {xs : Bytes} (h : OutB w p F xs) : ∃ A n cap, w.cell? ⟨p, 0, none⟩ = some (.slice A n cap) ∧ w.frozen? ⟨p, 0, none⟩ = false ∧ p < w.heap.size ∧ Hid (n = xs.length) ∧
    Hid (Blk w p 110 #[.slice A n cap] ∧ OwnB w (.slice A n cap) xs ∧ (∀ b ∈ blks (.slice A n cap), b ∈ F) ∧ p ∈ F ∧ ∀ b ∈ F, b < w.heap.size) := by
  obtain ⟨v, hb, ho, hF, hp⟩ := h
  obtain ⟨A, cap, rfl, _, _⟩ := ho.val
  exact ⟨A, _, cap, hb.cell 0, hb.frozen 0, hb.lt, Lib.hid rfl, Lib.hid ⟨hb, ho, hF, hp⟩⟩
theorem outByte_any (p : Nat) (F : List Nat) (xs : Bytes) (x : UInt8) (xi : Int) (hx : xi = x.toNat) (w : World) (hO : OutB w p F xs) (hz : xs.length ≤ 190000000000000) :
    Calls Try.prog 40 #[ptr p, .int .u8 xi] w (OutP w p F (xs ++ [x])) := by
  obtain ⟨A, n, cap, h0, f0, hl, HN, HO⟩ := hO.open_
  clear hO
  have HX := Lib.hid hx; clear hx
  go_enter Try.func40, Try.ntmps40
  have HS := Lib.hid (bs_one w 5 HX.out)
  have ho1 : OwnB (w.alloc (.cells #[.int .u8 xi] 5)) (.slice A n cap) xs := HO.out.2.1.mod ((Mod.refl [] w).alloc _) (by simp)
  have HO0 := Lib.hid ho1; clear ho1
  go_wp2_with (at_builtin; refine wpList_append_bytes rfl _ _ rfl HO0.out rfl HS.out rfl ?_ ?hz; intro A1 n1 cap1 w1 hown1 hn1 hm1 HF1; have hm0 : Mod (blks (.slice A n cap)) w w1 := ((Mod.refl _ w).alloc (.cells #[.int .u8 xi] 5)).trans hm1; have hb1 := HO.out.1.mod hm0 (own_ne HO.out.2.1 HO.out.1 (by decide)); have c1 : w1.cell? ⟨p, 0, none⟩ = some (.slice A n cap) := hb1.cell 0; have f1 := hb1.frozen 0; have HO1 := Lib.hid hown1; have HM1 := Lib.hid hm0; clear hown1 hb1 hm1 hm0)
  case hz => simp; omega
  go_end0
  have hs := out_step HO.out.1 HO.out.2.1 HO.out.2.2.1 HO.out.2.2.2 HO1.out HM1.out (fun b hb => (HF1.out b hb).imp id (by simp; omega))
  exact ⟨rfl, _, hs⟩
end Go.Proofs.Ytlpjeckhejbkkaa
end

section
set_option linter.unusedVariables false
set_option linter.unusedSimpArgs false
set_option maxRecDepth 20000
set_option maxHeartbeats 400000
namespace Go.Proofs.Ytlpjeckhejbkkaa
open Go.RowKit

theorem putNum_lt {x : Nat} (h : x < 128) : putNum x = [UInt8.ofNat x] := by rw [putNum, if_pos h]
theorem putNum_ge {x : Nat} (h : 128 ≤ x) : putNum x = UInt8.ofNat (x % 128 + 128) :: putNum (x / 128) := by rw [putNum, if_neg (by omega)]
theorem putNum_length (x : Nat) : ∀ k, x < 128 ^ (k + 1) → (putNum x).length ≤ k + 1 := by
  intro k
  induction k generalizing x with
  | zero => intro h; rw [putNum_lt (by omega)]; simp
  | succ k ih =>
    intro h
    by_cases hx : x < 128
    · rw [putNum_lt hx]; simp
    · rw [putNum_ge (by omega), List.length_cons]
      have := ih (x / 128) (by rw [Nat.div_lt_iff_lt_mul (by omega)]; rw [Nat.pow_succ] at h; omega)
      omega
theorem putNum_length10 (x : Nat) (h : x < 18446744073709551616) : (putNum x).length ≤ 10 := putNum_length x 9 (by omega)
theorem outNumber_any (p : Nat) (F : List Nat) (xs : Bytes) (x : Nat) (w : World) (hO : OutB w p F xs) (hx : x < 18446744073709551616) (hz : xs.length ≤ 190000000000000) :
    Calls Try.prog 41 #[ptr p, .int .u64 (x : Int)] w (OutP w p F (xs ++ putNum x)) := by
  have HO := Lib.hid hO; clear hO
  have HX := Lib.hid hx; clear hx
  go_enter Try.func41, Try.ntmps41
  go_wp2
  go_loopw [1] (fun s wr => ∃ (y : Nat) (F' : List Nat) (zs : Bytes), s = .int .u64 (y : Int) ∧ Hid (y < 18446744073709551616) ∧ Hid (OutB wr p F' (xs ++ zs)) ∧ Hid (zs ++ putNum y = putNum x) ∧ Hid (Mod F w wr) ∧ Hid (Fresh w F F')) (fun s _ => (intOf s).toNat)
  case atStart => exact ⟨x, F, [], rfl, HX, Lib.hid (by simpa using HO.out), Lib.hid (by simp), Lib.hid (Mod.refl _ _), Lib.hid (Fresh.refl _ _)⟩
  case round =>
    obtain ⟨y, F', zs, rfl, HY, HB, HP, HM, HF⟩ := hrel
    have hlen : (xs ++ zs).length ≤ 195000000000000 := by
      have h1 := putNum_length10 x HX.out
      have h2 := congrArg List.length HP.out
      rw [List.length_append] at h2 ⊢
      omega
    have HL := Lib.hid hlen; clear hlen
    obtain ⟨A, n, cap, h0, f0, hl, HN, HO1⟩ := HB.out.open_
    by_cases hy : 128 ≤ y
    · have hbits : bits .or .u8 ((y : Int) % 256) 128 = ((UInt8.ofNat (y % 128 + 128)).toNat : Int) := by
        have e : (y : Int) % 256 = ((y % 256 : Nat) : Int) := by omega
        rw [e, or_u8_128 _ (by omega)]
        have : (UInt8.ofNat (y % 128 + 128)).toNat = y % 128 + 128 := by simp; omega
        rw [this]; omega
      have HS := Lib.hid (bs_one wr 5 hbits); clear hbits
      have ho1 : OwnB (wr.alloc (.cells #[.int .u8 (bits .or .u8 ((y : Int) % 256) 128)] 5)) (.slice A n cap) (xs ++ zs) := HO1.out.2.1.mod ((Mod.refl [] wr).alloc _) (by simp)
      have HO0 := Lib.hid ho1; clear ho1
      go_wp2_with (at_builtin; refine wpList_append_bytes rfl _ _ rfl HO0.out rfl HS.out rfl ?_ ?hz; intro A1 n1 cap1 w1 hown1 hn1 hm1 HF1; have hm0 : Mod (blks (.slice A n cap)) wr w1 := ((Mod.refl _ wr).alloc _).trans hm1; have hb1 := HO1.out.1.mod hm0 (own_ne HO1.out.2.1 HO1.out.1 (by decide)); have c1 : w1.cell? ⟨p, 0, none⟩ = some (.slice A n cap) := hb1.cell 0; have f1 := hb1.frozen 0; have HO2 := Lib.hid hown1; have HM1 := Lib.hid hm0; clear hown1 hb1 hm1 hm0)
      case hz => have := HL.out; simp only [List.length_cons, List.length_nil]; omega
      go_roundw
      case rel =>
        have hs := out_step HO1.out.1 HO1.out.2.1 HO1.out.2.2.1 HO1.out.2.2.2 HO2.out HM1.out (fun b hb => (HF1.out b hb).imp id (by simp; omega))
        refine ⟨y / 128, _, zs ++ [UInt8.ofNat (y % 128 + 128)], by go_num, Lib.hid (by have := HY.out; omega), Lib.hid (by simpa using hs.1), Lib.hid ?_, Lib.hid (HM.out.fresh HF.out hs.2.1), Lib.hid (HF.out.trans hs.2.2 HM.out.size)⟩
        rw [← HP.out, putNum_ge hy]
        simp
      case measure => simp [intOf]; omega
    · have hbits : (y : Int) = ((UInt8.ofNat y).toNat : Int) := by
        have : (UInt8.ofNat y).toNat = y := by simp; omega
        rw [this]
      have HS := Lib.hid (bs_one wr 5 hbits); clear hbits
      have ho1 : OwnB (wr.alloc (.cells #[.int .u8 (y : Int)] 5)) (.slice A n cap) (xs ++ zs) := HO1.out.2.1.mod ((Mod.refl [] wr).alloc _) (by simp)
      have HO0 := Lib.hid ho1; clear ho1
      go_wp2_with (at_builtin; refine wpList_append_bytes rfl _ _ rfl HO0.out rfl HS.out rfl ?_ ?hz; intro A1 n1 cap1 w1 hown1 hn1 hm1 HF1; have hm0 : Mod (blks (.slice A n cap)) wr w1 := ((Mod.refl _ wr).alloc _).trans hm1; have hb1 := HO1.out.1.mod hm0 (own_ne HO1.out.2.1 HO1.out.1 (by decide)); have c1 : w1.cell? ⟨p, 0, none⟩ = some (.slice A n cap) := hb1.cell 0; have f1 := hb1.frozen 0; have HO2 := Lib.hid hown1; have HM1 := Lib.hid hm0; clear hown1 hb1 hm1 hm0)
      case hz => have := HL.out; simp only [List.length_cons, List.length_nil]; omega
      go_end0
      have hs := out_step HO1.out.1 HO1.out.2.1 HO1.out.2.2.1 HO1.out.2.2.2 HO2.out HM1.out (fun b hb => (HF1.out b hb).imp id (by simp; omega))
      refine ⟨rfl, _, ?_, HM.out.fresh HF.out hs.2.1, HF.out.trans hs.2.2 HM.out.size⟩
      rw [← HP.out, putNum_lt (by omega), ← List.append_assoc]
      exact hs.1
end Go.Proofs.Ytlpjeckhejbkkaa
end

section
set_option linter.unusedVariables false
set_option linter.unusedSimpArgs false
set_option maxRecDepth 20000
set_option maxHeartbeats 400000
namespace Go.Proofs.Ytlpjeckhejbkkaa
open Go.RowKit

theorem lay_any (p : Nat) (F : List Nat) (xs : Bytes) (s : ByteArray) (w : World) (hO : OutB w p F xs) (hs : s.size < 18446744073709551616) (hz : xs.length + s.size ≤ 180000000000000) :
    Calls Try.prog 81 #[ptr p, .string s] w (OutP w p F (xs ++ putText s)) := by
  have HL : Hid ((putNum s.size).length ≤ 10) := Lib.hid (putNum_length10 _ hs)
  have hnum := outNumber_any p F xs s.size w hO hs (by omega)
  have HN := Lib.hid hnum; clear hnum hO hs
  go_enter Try.func81, Try.ntmps81
  go_wp2_with fail
  refine HN.out.mono ?_
  rintro e' w1 ⟨rfl, F1, hO1, hm1, hf1⟩
  obtain ⟨A, n, cap, h0, f0, hl, HN1, HO⟩ := hO1.open_
  have HM1 := Lib.hid hm1; clear hm1
  have HF1 := Lib.hid hf1; clear hf1 hO1
  go_wp2_with (at_builtin; refine wpList_append_string rfl _ _ rfl HO.out.2.1 rfl rfl ?_ ?hz; intro A1 n1 cap1 w2 hown2 hn2 hm2 HF2; have hb2 := HO.out.1.mod hm2 (own_ne HO.out.2.1 HO.out.1 (by decide)); have c1 : w2.cell? ⟨p, 0, none⟩ = some (.slice A n cap) := hb2.cell 0; have f1 := hb2.frozen 0; have HO2 := Lib.hid hown2; have HM2 := Lib.hid hm2; clear hown2 hb2 hm2)
  case hz => have := HL.out; rw [List.length_append]; omega
  go_end0
  have hs := out_step HO.out.1 HO.out.2.1 HO.out.2.2.1 HO.out.2.2.2 HO2.out HM2.out (fun b hb => (HF2.out b hb).imp id (by omega))
  rw [List.append_assoc] at hs
  exact ⟨rfl, _, hs.1, HM1.out.fresh HF1.out hs.2.1, HF1.out.trans hs.2.2 HM1.out.size⟩
theorem outText_any (p : Nat) (F : List Nat) (xs : Bytes) (s : ByteArray) (w : World) (hO : OutB w p F xs) (hs : s.size < 18446744073709551616) (hz : xs.length + s.size ≤ 180000000000000) :
    Calls Try.prog 62 #[ptr p, .string s] w (OutP w p F (xs ++ putText s)) := by
  have hlay := lay_any p F xs s w hO hs hz
  have HN := Lib.hid hlay; clear hlay hO hs
  go_enter Try.func62, Try.ntmps62
  go_wp2_with fail
  refine HN.out.mono ?_
  rintro e' w1 ⟨rfl, h1⟩
  go_wp2
  go_end0
  exact ⟨rfl, h1⟩
def DoneP (w : World) (xs : Bytes) (e' : Ending) (w' : World) : Prop :=
  ∃ v, e' = .returned v ∧ OwnB w' v xs ∧ Mod [] w w' ∧ ∀ b ∈ blks v, w.heap.size ≤ b
theorem outDone_any (p : Nat) (F : List Nat) (xs : Bytes) (w : World) (hO : OutB w p F xs) (hz : xs.length ≤ 180000000000000) :
    Calls Try.prog 44 #[ptr p] w (DoneP w xs) := by
  obtain ⟨A, n, cap, h0, f0, hl, HN1, HO⟩ := hO.open_
  obtain ⟨g, hbs, hg⟩ := HO.out.2.1.bs
  have HS := Lib.hid hbs; clear hbs hO
  go_enter Try.func44, Try.ntmps44
  go_wp2_with (at_builtin; refine wpList_append_bytes rfl _ _ rfl (OwnB.nil w) rfl HS.out rfl ?_ ?hz; intro A1 n1 cap1 w2 hown2 hn2 hm2 HF2)
  case hz => simp; omega
  go_ret
  refine ⟨_, rfl, by simpa using hown2, hm2.mono (by simp [blks, Value.ownBlock]), fun b hb => ?_⟩
  rcases HF2.out b hb with h | h
  · simp [blks, Value.ownBlock] at h
  · omega
theorem outSigned_any (p : Nat) (F : List Nat) (xs : Bytes) (x : Int) (w : World) (hO : OutB w p F xs) (hx0 : -9223372036854775808 ≤ x) (hx1 : x ≤ 9223372036854775807) (hz : xs.length ≤ 180000000000000) :
    Calls Try.prog 96 #[ptr p, .int .i64 x] w (OutP w p F (xs ++ putNum (zig x))) := by
  obtain ⟨hb, hlt⟩ := zig_bits x hx0 hx1
  have hnum := outNumber_any p F xs (zig x) w hO hlt (by omega)
  rw [← hb] at hnum
  have HN := Lib.hid hnum; clear hnum hb hlt
  have HA := Lib.hid hx0; clear hx0
  have HB := Lib.hid hx1; clear hx1
  go_enter Try.func96, Try.ntmps96
  go_wp2_with fail
  refine HN.out.mono ?_
  rintro e' w1 ⟨rfl, h1⟩
  go_wp2
  go_end0
  exact ⟨rfl, h1⟩
theorem outHash_any (p : Nat) (F : List Nat) (xs : Bytes) (h : GHash) (w : World) (hO : OutB w p F xs) (hz : xs.length ≤ 180000000000000) :
    Calls Try.prog 42 #[ptr p, h.val] w (OutP w p F (xs ++ h.l)) := by
  obtain ⟨A, n, cap, h0, f0, hl, HN1, HO⟩ := hO.open_
  unfold GHash.val
  have hb0 := Blk.new w 46 h.cells.toArray
  have hs0 : BS (w.alloc (.cells h.cells.toArray 46)) w.heap.size (.slice (some ⟨w.heap.size, 0, none⟩) 32 32) h.l := by
    refine ⟨by simp [h.h], _, 32, by rw [h.h], by rw [h.h]; omega, by decide, fun _ => ⟨0, rfl, by simp, fun i u hu => ?_⟩⟩
    rw [Nat.zero_add, hb0.cell i]
    simpa [GHash.cells] using hu
  have ho0 : OwnB (w.alloc (.cells h.cells.toArray 46)) (.slice A n cap) xs := HO.out.2.1.mod ((Mod.refl [] w).alloc _) (by simp)
  have HS := Lib.hid (hs0.mod (Mod.refl [] _).drew (by simp)); clear hs0
  have HO0 := Lib.hid (ho0.mod (Mod.refl [] _).drew (by simp)); clear ho0 hb0 hO
  have hz1 : xs.length + h.l.length ≤ 200000000000000 := by have := h.h; omega
  have HZ := Lib.hid hz1; clear hz1 hz
  go_enter Try.func42, Try.ntmps42
  go_wp2_with fail
  go_region_law ((refine step_append_bytes rfl _ _ (by rfl) HO0.out (by rfl) HS.out (by rfl) ?_ HZ.out; intro A1 n1 cap1 w1 hown1 hn1 hm1 HF1; have hm0 : Mod (blks (.slice A n cap)) w w1 := (((Mod.refl _ w).alloc _).drew).trans hm1; have hb1 := HO.out.1.mod hm0 (own_ne HO.out.2.1 HO.out.1 (by decide)); have c1 : w1.cell? ⟨p, 0, none⟩ = some (.slice A n cap) := hb1.cell 0; have f1 := hb1.frozen 0; have HO1 := Lib.hid hown1; have HM1 := Lib.hid hm0; clear hown1 hb1 hm1 hm0))
  go_wp2
  go_end0
  have hs := out_step HO.out.1 HO.out.2.1 HO.out.2.2.1 HO.out.2.2.2 HO1.out HM1.out (fun b hb => (HF1.out b hb).imp id (by simp; omega))
  exact ⟨rfl, _, hs⟩
end Go.Proofs.Ytlpjeckhejbkkaa
end

section
set_option linter.unusedVariables false
set_option linter.unusedSimpArgs false
set_option maxRecDepth 20000
set_option maxHeartbeats 400000
namespace Go.Proofs.Ytlpjeckhejbkkaa
open Go.RowKit

/-! ### the fields that operations may have -/
def fnv (n : Nat) : Value := .func (.func n) #[] #[]
inductive Fld where
  | text
  | number
  | at_
deriving DecidableEq
def Fld.cells : Fld → List Value
  | .text => [fnv 91, fnv 92, fnv 93]
  | .number => [fnv 94, fnv 95, fnv 97]
  | .at_ => [fnv 99, fnv 100, fnv 101]
def Fld.val (f : Fld) : Value := .agg f.cells.toArray
theorem Fld.cells_length (f : Fld) : f.cells.length = 3 := by cases f <;> rfl
theorem Fld.one (f : Fld) : ∀ u ∈ f.cells, u.oneCell' = true := by cases f <;> simp [Fld.cells, fnv, Value.oneCell']
theorem rtFld : RowT Try.prog 120 3 := ⟨_, Try.underlying120, rfl, by kernel_rfl⟩
abbrev FS (w : World) (g : Nat) (v : Value) (l : List Fld) : Prop := RS w 3 g v l.length (l.flatMap Fld.cells)

theorem text_any (w : World) : Calls Try.prog 82 #[] w fun e w' => e = .returned Fld.text.val ∧ Mod [] w w' := by
  go_enter Try.func82, Try.ntmps82
  go_wp2_with ((with_reducible refine wpList_store_blk rtFld (cells := Fld.text.cells) _ _ rfl ?hgd ?hx ?hy (Blk.new _ _ _) ?hl ?hold (Fld.one _) ?_); (case hgd => exact rfl); (case hx => exact rfl); (case hy => exact rfl); (case hl => exact rfl); (case hold => exact rfl); intro w2 hv2 hm2; have HV := Lib.hid hv2; have HM := Lib.hid hm2; clear hv2 hm2)
  refine bodyPost_ret (results_row rtFld rfl rfl HV.out (by simp [Fld.cells_length])) rfl ?_
  exact ⟨rfl, ((Mod.refl [] w).alloc _).then HM.out (by simp)⟩
theorem number_fld (w : World) : Calls Try.prog 83 #[] w fun e w' => e = .returned Fld.number.val ∧ Mod [] w w' := by
  go_enter Try.func83, Try.ntmps83
  go_wp2_with ((with_reducible refine wpList_store_blk rtFld (cells := Fld.number.cells) _ _ rfl ?hgd ?hx ?hy (Blk.new _ _ _) ?hl ?hold (Fld.one _) ?_); (case hgd => exact rfl); (case hx => exact rfl); (case hy => exact rfl); (case hl => exact rfl); (case hold => exact rfl); intro w2 hv2 hm2; have HV := Lib.hid hv2; have HM := Lib.hid hm2; clear hv2 hm2)
  refine bodyPost_ret (results_row rtFld rfl rfl HV.out (by simp [Fld.cells_length])) rfl ?_
  exact ⟨rfl, ((Mod.refl [] w).alloc _).then HM.out (by simp)⟩
theorem at_fld (w : World) : Calls Try.prog 84 #[] w fun e w' => e = .returned Fld.at_.val ∧ Mod [] w w' := by
  go_enter Try.func84, Try.ntmps84
  go_wp2_with ((with_reducible refine wpList_store_blk rtFld (cells := Fld.at_.cells) _ _ rfl ?hgd ?hx ?hy (Blk.new _ _ _) ?hl ?hold (Fld.one _) ?_); (case hgd => exact rfl); (case hx => exact rfl); (case hy => exact rfl); (case hl => exact rfl); (case hold => exact rfl); intro w2 hv2 hm2; have HV := Lib.hid hv2; have HM := Lib.hid hm2; clear hv2 hm2)
  refine bodyPost_ret (results_row rtFld rfl rfl HV.out (by simp [Fld.cells_length])) rfl ?_
  exact ⟨rfl, ((Mod.refl [] w).alloc _).then HM.out (by simp)⟩

def Fld.zero (f : Fld) (o : GOp) : Bool := match f with
  | .text => o.text.size == 0
  | .number => o.n == 0
  | .at_ => o.at_ == GIdent.zero
theorem size_zero (s : ByteArray) : (s.toList == (ByteArray.toList ⟨#[]⟩)) = (s.size == 0) := by
  rw [Bool.eq_iff_iff, beq_iff_eq, beq_iff_eq, ByteArray.toList_eq, ByteArray.toList_eq]
  exact List.length_eq_zero_iff.symm
theorem textZero_any (o : GOp) (w : World) : Calls Try.prog 91 #[o.val] w fun e w' => e = .returned (.bool (Fld.zero .text o)) ∧ Mod [] w w' := by
  go_enter Try.func91, Try.ntmps91
  go_wp2_with (first | ((with_reducible refine wpList_box_op _ rfl ?hgd (o := o) ?hx ?_); (case hgd => exact rfl); (case hx => exact rfl); intro q1 w1 hv1 hm1 hq1 hl1; obtain ⟨c0, c1, c2, c3, c36, HA0, HA4, HH4⟩ := hv1.open_; have HM1 := Lib.hid hm1; clear hv1 hm1))
  go_ret
  exact ⟨ret_bool (by simp [Fld.zero, ← size_zero]), HM1.out⟩
theorem numberZero_any (o : GOp) (w : World) : Calls Try.prog 94 #[o.val] w fun e w' => e = .returned (.bool (Fld.zero .number o)) ∧ Mod [] w w' := by
  go_enter Try.func94, Try.ntmps94
  go_wp2_with (first | ((with_reducible refine wpList_box_op _ rfl ?hgd (o := o) ?hx ?_); (case hgd => exact rfl); (case hx => exact rfl); intro q1 w1 hv1 hm1 hq1 hl1; obtain ⟨c0, c1, c2, c3, c36, HA0, HA4, HH4⟩ := hv1.open_; have HM1 := Lib.hid hm1; clear hv1 hm1))
  go_ret
  exact ⟨ret_bool rfl, HM1.out⟩
theorem atZero_any (o : GOp) (w : World) : Calls Try.prog 99 #[o.val] w fun e w' => e = .returned (.bool (Fld.zero .at_ o)) ∧ Mod [] w w' := by
  go_enter Try.func99, Try.ntmps99
  go_wp2_with (first | ((with_reducible refine wpList_box_op _ rfl ?hgd (o := o) ?hx ?_); (case hgd => exact rfl); (case hx => exact rfl); intro q1 w1 hv1 hm1 hq1 hl1; obtain ⟨c0, c1, c2, c3, c36, HA0, HA4, HH4⟩ := hv1.open_; have HM1 := Lib.hid hm1; clear hv1 hm1) | ((with_reducible refine wpList_load_ident _ rfl ?hgd HA4.out ?hx ?_); (case hgd => exact rfl); (case hx => exact rfl)))
  go_ret
  exact ⟨ret_bool rfl, HM1.out⟩
/-! ### laid -/
def Fld.lay (f : Fld) (o : GOp) : Bytes := match f with
  | .text => putText o.text
  | .number => putNum (zig o.n)
  | .at_ => putAt o.at_
def Fld.fits (f : Fld) (o : GOp) : Prop := match f with
  | .text => o.text.size ≤ 65536
  | .number => -9223372036854775808 ≤ o.n ∧ o.n ≤ 9223372036854775807
  | .at_ => 0 ≤ o.at_.op ∧ o.at_.op ≤ 1024
theorem OutP.of_mod {w w1 w' : World} {p : Nat} {F : List Nat} {xs : Bytes} {e : Ending} (hm : Mod [] w w1) (h : OutP w1 p F xs e w') : OutP w p F xs e w' := by
  obtain ⟨he, F', h1, h2, h3⟩ := h
  refine ⟨he, F', h1, (hm.mono (by simp)).trans h2, fun b hb => (h3 b hb).imp id (by have := hm.size; omega)⟩
theorem OutP.trans {w w1 w' : World} {p : Nat} {F F1 : List Nat} {xs : Bytes} {e : Ending} (hm : Mod F w w1) (hf : Fresh w F F1) (h : OutP w1 p F1 xs e w') : OutP w p F xs e w' := by
  obtain ⟨he, F', h1, h2, h3⟩ := h
  exact ⟨he, F', h1, hm.fresh hf h2, hf.trans h3 hm.size⟩
theorem textLay_any (o : GOp) (p : Nat) (F : List Nat) (xs : Bytes) (w : World) (hO : OutB w p F xs) (hs : Fld.fits .text o) (hz : xs.length ≤ 170000000000000) :
    Calls Try.prog 92 #[ptr p, o.val] w (OutP w p F (xs ++ Fld.lay .text o)) := by
  have HO := Lib.hid hO; clear hO
  have HS := Lib.hid hs; clear hs
  go_enter Try.func92, Try.ntmps92
  go_wp2_with (first | ((with_reducible refine wpList_box_op _ rfl ?hgd (o := o) ?hx ?_); (case hgd => exact rfl); (case hx => exact rfl); intro q1 w1 hv1 hm1 hq1 hl1; obtain ⟨c0, c1, c2, c3, c36, HA0, HA4, HH4⟩ := hv1.open_; have HM1 := Lib.hid hm1; clear hv1 hm1))
  refine (outText_any p F xs o.text _ (HO.out.mod HM1.out (by simp)) (by have := HS.out; unfold Fld.fits at this; omega) (by have := HS.out; unfold Fld.fits at this; omega)).mono ?_
  rintro e' w2 hp
  have HP := Lib.hid (hp.of_mod HM1.out); clear hp
  obtain ⟨rfl, _⟩ := HP.out
  go_wp2
  go_end0
  exact HP.out
theorem numberLay_any (o : GOp) (p : Nat) (F : List Nat) (xs : Bytes) (w : World) (hO : OutB w p F xs) (hs : Fld.fits .number o) (hz : xs.length ≤ 170000000000000) :
    Calls Try.prog 95 #[ptr p, o.val] w (OutP w p F (xs ++ Fld.lay .number o)) := by
  have HO := Lib.hid hO; clear hO
  have HS := Lib.hid hs; clear hs
  go_enter Try.func95, Try.ntmps95
  go_wp2_with (first | ((with_reducible refine wpList_box_op _ rfl ?hgd (o := o) ?hx ?_); (case hgd => exact rfl); (case hx => exact rfl); intro q1 w1 hv1 hm1 hq1 hl1; obtain ⟨c0, c1, c2, c3, c36, HA0, HA4, HH4⟩ := hv1.open_; have HM1 := Lib.hid hm1; clear hv1 hm1))
  refine (outSigned_any p F xs o.n _ (HO.out.mod HM1.out (by simp)) HS.out.1 HS.out.2 (by omega)).mono ?_
  rintro e' w2 hp
  have HP := Lib.hid (hp.of_mod HM1.out); clear hp
  obtain ⟨rfl, _⟩ := HP.out
  go_wp2
  go_end0
  exact HP.out
theorem atLay_any (o : GOp) (p : Nat) (F : List Nat) (xs : Bytes) (w : World) (hO : OutB w p F xs) (hs : Fld.fits .at_ o) (hz : xs.length ≤ 170000000000000) :
    Calls Try.prog 100 #[ptr p, o.val] w (OutP w p F (xs ++ Fld.lay .at_ o)) := by
  have HO := Lib.hid hO; clear hO
  obtain ⟨k, hk⟩ : ∃ k : Nat, o.at_.op = (k : Int) := ⟨o.at_.op.toNat, by have := hs.1; omega⟩
  have hk1 : k ≤ 1024 := by have := hs.2; omega
  have HK := Lib.hid hk
  clear hs
  go_enter Try.func100, Try.ntmps100
  go_wp2_with (first | ((with_reducible refine wpList_box_op _ rfl ?hgd (o := o) ?hx ?_); (case hgd => exact rfl); (case hx => exact rfl); intro q1 w1 hv1 hm1 hq1 hl1; obtain ⟨c0, c1, c2, c3, c36, HA0, HA4, HH4⟩ := hv1.open_; rw [HK.out] at c36; have HM1 := Lib.hid hm1; clear hv1 hm1) | ((with_reducible refine wpList_load_ident _ rfl ?hgd HA4.out ?hx ?_); (case hgd => exact rfl); (case hx => exact rfl)) | ((with_reducible refine wpList_load_hash _ rfl ?hgd HH4.out ?hx ?_); (case hgd => exact rfl); (case hx => exact rfl)))
  refine (outNumber_any p F xs k w1 (HO.out.mod HM1.out (by simp)) (by omega) (by omega)).mono ?_
  rintro e' w2 ⟨rfl, F1, hO1, hm1, hf1⟩
  have hq : q1 ∉ F := fun h => by have := HO.out.all q1 h; omega
  have e36 := hm1.cell (p := ⟨q1, 36, none⟩) hl1 hq
  rw [c36] at e36
  have hh : HashAt w2 q1 4 o.at_.node := CellsAt.mod HH4.out hm1 hq
  have HH := Lib.hid hh; clear hh
  have HO1 := Lib.hid hO1; clear hO1
  have HM := Lib.hid hm1; clear hm1
  have HF := Lib.hid hf1; clear hf1
  clear c0 c1 c2 c3 c36 HA0 HA4 HH4
  have HL : Hid ((putNum k).length ≤ 10) := Lib.hid (putNum_length10 _ (by omega))
  by_cases hk0 : k = 0
  · subst hk0
    go_wp2
    go_end0
    refine OutP.of_mod HM1.out (OutP.trans HM.out HF.out ⟨rfl, F1, ?_, Mod.refl _ _, Fresh.refl _ _⟩)
    have e : Fld.lay .at_ o = putNum 0 := by simp [Fld.lay, putAt, HK.out]
    rw [e]
    exact HO1.out
  · go_wp2_with (first | ((with_reducible refine wpList_load_hash _ rfl ?hgd HH.out ?hx ?_); (case hgd => exact rfl); (case hx => exact rfl)))
    refine (outHash_any p F1 _ o.at_.node _ HO1.out (by have := HL.out; rw [List.length_append]; omega)).mono ?_
    rintro e' w3 hp
    have hp1 := OutP.of_mod HM1.out (OutP.trans HM.out HF.out hp)
    have HP := Lib.hid hp1; clear hp hp1
    obtain ⟨rfl, _⟩ := HP.out
    go_wp2
    go_end0
    have e : Fld.lay .at_ o = putNum k ++ o.at_.node.l := by simp [Fld.lay, putAt, HK.out, hk0]
    rw [e, ← List.append_assoc]
    exact HP.out
/-! ### read -/
def rdFld (f : Fld) (xs : Bytes) (pos : Nat) (o : GOp) : Rd GOp := match f with
  | .text => (rdText xs pos).bind fun s p => .ok { o with text := s } p
  | .number => (rdSigned xs pos).bind fun n p => .ok { o with n := n } p
  | .at_ => (rdNum xs pos 1024).bind fun n p => if n = 0 then .ok o p else (rdHash xs p).bind fun h q => .ok { o with at_ := ⟨h, n⟩ } q
def ReadP (w : World) (p g q : Nat) (xs : Bytes) (r : Rd GOp) (e' : Ending) (w' : World) : Prop :=
  match r with
  | .ok o pos => e' = .returned .nilIface ∧ InB w' p g xs pos .nilIface ∧ OpV w' q o ∧ Mod [p, q] w w'
  | .bad why at_ => ∃ b, e' = .returned (badV b) ∧ BadAt w' b why at_ ∧ InB w' p g xs at_ (badV b) ∧ Mod [p, q] w w' ∧ w.heap.size ≤ b
theorem textRead_any (o : GOp) (p g q : Nat) (xs : Bytes) (w : World) (n0 : Nat) (hI : InB w p g xs n0 .nilIface) (hn : n0 ≤ xs.length) (hz : xs.length ≤ 140737488355328) (hq : OpV w q o) (hqp : q ≠ p) (hqg : 0 < xs.length → g ≠ q) :
    Calls Try.prog 93 #[ptr p, ptr q] w (ReadP w p g q xs (rdFld .text xs n0 o)) := by
  have hread := inText_any p g xs w n0 hI hn hz
  have HN := Lib.hid hread; clear hread hI
  have HQ := Lib.hid hq; clear hq
  unfold rdFld
  generalize rdText xs n0 = r at *
  cases r with
  | ok x pos =>
    go_enter Try.func93, Try.ntmps93
    go_wp2_with fail
    refine HN.out.mono ?_
    rintro e' w1 ⟨rfl, hI1, hm⟩
    obtain ⟨c0, c1, c2, c3, c36, _⟩ := OpV.open_ (HQ.out.mod hm (by simpa using hqp))
    have f1 := (HQ.out.mod hm (by simpa using hqp)).frozen 2
    have HI1 := Lib.hid hI1; clear hI1
    have HM := Lib.hid hm; clear hm
    go_wp2
    go_ret
    have hms : Mod [q] w1 (w1.setCell ⟨q, 2, none⟩ (.string x)) := (Mod.refl [q] w1).setCell _ (by simp) _
    exact ⟨rfl, HI1.out.mod hms (by simpa using hqp.symm) (by simpa using hqg), (HQ.out.mod HM.out (by simpa using hqp)).set_ 2 _, (HM.out.mono (by simp)).trans (hms.mono (by simp))⟩
  | bad why at_ =>
    go_enter Try.func93, Try.ntmps93
    go_wp2_with fail
    refine HN.out.mono ?_
    rintro e' w1 ⟨b, rfl, hb, hI1, hm, hbq⟩
    obtain ⟨c0, c1, c2, c3, c36, _⟩ := OpV.open_ (HQ.out.mod hm (by simpa using hqp))
    have f1 := (HQ.out.mod hm (by simpa using hqp)).frozen 2
    have HI1 := Lib.hid hI1; clear hI1
    have HB := Lib.hid hb; clear hb
    have HM := Lib.hid hm; clear hm
    unfold badV
    go_wp2
    go_ret
    have hms : Mod [q] w1 (w1.setCell ⟨q, 2, none⟩ (.string ⟨#[]⟩)) := (Mod.refl [q] w1).setCell _ (by simp) _
    have hbl : b ≠ q := by have := HQ.out.lt; omega
    exact ⟨b, rfl, Blk.mod HB.out hms (by simpa using hbl), HI1.out.mod hms (by simpa using hqp.symm) (by simpa using hqg), (HM.out.mono (by simp)).trans (hms.mono (by simp)), hbq⟩
theorem numberRead_any (o : GOp) (p g q : Nat) (xs : Bytes) (w : World) (n0 : Nat) (hI : InB w p g xs n0 .nilIface) (hn : n0 ≤ xs.length) (hz : xs.length ≤ 140737488355328) (hq : OpV w q o) (hqp : q ≠ p) (hqg : 0 < xs.length → g ≠ q) :
    Calls Try.prog 97 #[ptr p, ptr q] w (ReadP w p g q xs (rdFld .number xs n0 o)) := by
  have hread := inSigned_any p g xs w n0 hI hn
  have HN := Lib.hid hread; clear hread hI
  have HQ := Lib.hid hq; clear hq
  unfold rdFld
  generalize rdSigned xs n0 = r at *
  cases r with
  | ok x pos =>
    go_enter Try.func97, Try.ntmps97
    go_wp2_with fail
    refine HN.out.mono ?_
    rintro e' w1 ⟨rfl, hI1, hm⟩
    obtain ⟨c0, c1, c2, c3, c36, _⟩ := OpV.open_ (HQ.out.mod hm (by simpa using hqp))
    have f1 := (HQ.out.mod hm (by simpa using hqp)).frozen 3
    have HI1 := Lib.hid hI1; clear hI1
    have HM := Lib.hid hm; clear hm
    go_wp2
    go_ret
    have hms : Mod [q] w1 (w1.setCell ⟨q, 3, none⟩ (.int .i64 x)) := (Mod.refl [q] w1).setCell _ (by simp) _
    exact ⟨rfl, HI1.out.mod hms (by simpa using hqp.symm) (by simpa using hqg), (HQ.out.mod HM.out (by simpa using hqp)).set_ 3 _, (HM.out.mono (by simp)).trans (hms.mono (by simp))⟩
  | bad why at_ =>
    go_enter Try.func97, Try.ntmps97
    go_wp2_with fail
    refine HN.out.mono ?_
    rintro e' w1 ⟨b, rfl, hb, hI1, hm, hbq⟩
    obtain ⟨c0, c1, c2, c3, c36, _⟩ := OpV.open_ (HQ.out.mod hm (by simpa using hqp))
    have f1 := (HQ.out.mod hm (by simpa using hqp)).frozen 3
    have HI1 := Lib.hid hI1; clear hI1
    have HB := Lib.hid hb; clear hb
    have HM := Lib.hid hm; clear hm
    unfold badV
    go_wp2
    go_ret
    have hms : Mod [q] w1 (w1.setCell ⟨q, 3, none⟩ (.int .i64 0)) := (Mod.refl [q] w1).setCell _ (by simp) _
    have hbl : b ≠ q := by have := HQ.out.lt; omega
    exact ⟨b, rfl, Blk.mod HB.out hms (by simpa using hbl), HI1.out.mod hms (by simpa using hqp.symm) (by simpa using hqg), (HM.out.mono (by simp)).trans (hms.mono (by simp)), hbq⟩
theorem GOp.set36 (o : GOp) (n : Int) : o.cells.toArray.setIfInBounds 36 (.int .i64 n) = ({ o with at_ := ⟨o.at_.node, n⟩ } : GOp).cells.toArray := by
  have h := o.at_.node.cells_length
  apply Array.toList_inj.1
  simp [GOp.cells, GIdent.cells, List.set_append, h]
theorem GOp.part4 (o : GOp) (h : GHash) (n : Int) (ho : o.at_.op = n) : (o.cells.toArray.toList.take 4 ++ h.cells ++ o.cells.toArray.toList.drop (4 + h.cells.length)).toArray = ({ o with at_ := ⟨h, n⟩ } : GOp).cells.toArray := by
  have h0 := o.at_.node.cells_length
  have h1 := h.cells_length
  rw [h1]
  apply Array.toList_inj.1
  simp [GOp.cells, GIdent.cells, List.drop_append, h0, ho]
theorem atRead_any (o : GOp) (p g q : Nat) (xs : Bytes) (w : World) (n0 : Nat) (hI : InB w p g xs n0 .nilIface) (hn : n0 ≤ xs.length) (hz : xs.length ≤ 140737488355328) (hq : OpV w q o) (hqp : q ≠ p) (hqg : 0 < xs.length → g ≠ q) :
    Calls Try.prog 101 #[ptr p, ptr q] w (ReadP w p g q xs (rdFld .at_ xs n0 o)) := by
  have hnum : Calls Try.prog 65 #[ptr p, .int .u64 1024] w _ := inNumber_any 1024 p g xs w n0 hI hn (by omega)
  have HN := Lib.hid hnum; clear hnum
  have HQ := Lib.hid hq; clear hq
  have hok := @rdNum_ok xs n0 1024
  unfold rdFld
  generalize rdNum xs n0 1024 = r at *
  cases r with
  | ok k pos =>
    obtain ⟨hk, _, hp, _⟩ := hok rfl hn
    clear hok
    go_enter Try.func101, Try.ntmps101
    go_wp2_with fail
    refine HN.out.mono ?_
    rintro e' w1 ⟨rfl, hI1, hm⟩
    have hq1 : OpV w1 q o := HQ.out.mod hm (by simpa using hqp)
    obtain ⟨c0, c1, c2, c3, c36, _⟩ := hq1.open_
    have f1 := hq1.frozen 36
    have HI1 := Lib.hid hI1; clear hI1
    have HM := Lib.hid hm; clear hm
    have HQ1 := Lib.hid hq1; clear hq1
    by_cases hk0 : k = 0
    · subst hk0
      go_wp2
      go_ret
      exact ⟨rfl, HI1.out, HQ1.out, HM.out.mono (by simp)⟩
    · have hq2 := HQ1.out.set_ 36 (.int .i64 (k : Int))
      rw [GOp.set36] at hq2
      have hms : Mod [q] w1 (w1.setCell ⟨q, 36, none⟩ (.int .i64 (k : Int))) := (Mod.refl [q] w1).setCell _ (by simp) _
      have hi2 := HI1.out.mod hms (by simpa using hqp.symm) (by simpa using hqg)
      have HQ2 := Lib.hid hq2; clear hq2
      have HMS := Lib.hid hms; clear hms
      have HI2 := Lib.hid hi2; clear hi2
      have hhash := inHash_any p g xs _ pos HI2.out hp
      have hhd : ∀ a q2, rdHash xs pos = .ok a q2 → True := fun _ _ _ => trivial
      have e0 : (Rd.ok k pos).bind (fun n p => if n = 0 then Rd.ok o p else (rdHash xs p).bind fun h q => Rd.ok ({ o with at_ := ⟨h, n⟩ } : GOp) q) = (rdHash xs pos).bind fun h q => Rd.ok ({ o with at_ := ⟨h, k⟩ } : GOp) q := by simp [Rd.bind, hk0]
      have HE := Lib.hid e0; clear e0
      have HH := Lib.hid hhash; clear hhash
      generalize rdHash xs pos = r2 at *
      have hk1 : ¬ ((k : Int) = 0) := by omega
      cases r2 with
      | ok h pos2 =>
        go_wp2_with fail
        refine HH.out.mono ?_
        rintro e' w3 ⟨rfl, hI3, hm3⟩
        have hq3 := HQ2.out.mod hm3 (by simpa using hqp)
        have hql := hq3.lt
        have HQ3 := Lib.hid hq3; clear hq3
        have HI3 := Lib.hid hI3; clear hI3
        have HM3 := Lib.hid hm3; clear hm3
        go_wp2_with ((with_reducible refine wpList_store_part rtHash (k := 4) (cells := h.cells) _ _ rfl ?hgd ?hx ?hy HQ3.out ?hl ?hk (GHash.one _) ?_); (case hgd => exact rfl); (case hx => exact rfl); (case hy => exact rfl); (case hl => exact h.cells_length); (case hk => rw [List.size_toArray, GOp.cells_length]; omega); intro w4 hv4 hm4; have HV := Lib.hid hv4; have HM4 := Lib.hid hm4; clear hv4 hm4)
        go_ret
        rw [HE.out]
        refine ⟨rfl, HI3.out.mod HM4.out (by simpa using hqp.symm) (by simpa using hqg), ?_, ((HM.out.mono (by simp)).trans (HMS.out.mono (by simp))).trans ((HM3.out.mono (by simp)).trans (HM4.out.mono (by simp)))⟩
        have := HV.out
        rw [GOp.part4 _ h k rfl] at this
        exact this
      | bad why at_ =>
        go_wp2_with fail
        refine HH.out.mono ?_
        rintro e' w3 ⟨b, rfl, hb3, hI3, hm3, hbq⟩
        have hq3 := HQ2.out.mod hm3 (by simpa using hqp)
        have hql := hq3.lt
        have HQ3 := Lib.hid hq3; clear hq3
        have HI3 := Lib.hid hI3; clear hI3
        have HM3 := Lib.hid hm3; clear hm3
        have HB3 := Lib.hid hb3; clear hb3
        unfold badV
        go_wp2_with ((with_reducible refine wpList_store_part rtHash (k := 4) (cells := GHash.zero.cells) _ _ rfl ?hgd ?hx ?hy HQ3.out ?hl ?hk (GHash.one _) ?_); (case hgd => exact rfl); (case hx => exact rfl); (case hy => exact rfl); (case hl => exact GHash.cells_length _); (case hk => rw [List.size_toArray, GOp.cells_length]; omega); intro w4 hv4 hm4; have HV := Lib.hid hv4; have HM4 := Lib.hid hm4; clear hv4 hm4)
        go_ret
        rw [HE.out]
        have hs0 := HMS.out.size
        have hs1 := HM.out.size
        have hbl : b ≠ q := Blk.ne_ HB3.out HQ3.out (by decide)
        exact ⟨b, rfl, Blk.mod HB3.out HM4.out (by simpa using hbl), HI3.out.mod HM4.out (by simpa using hqp.symm) (by simpa using hqg), ((HM.out.mono (by simp)).trans (HMS.out.mono (by simp))).trans ((HM3.out.mono (by simp)).trans (HM4.out.mono (by simp))), by omega⟩
  | bad why at_ =>
    go_enter Try.func101, Try.ntmps101
    go_wp2_with fail
    refine HN.out.mono ?_
    rintro e' w1 ⟨b, rfl, hb, hI1, hm, hbq⟩
    have HI1 := Lib.hid hI1; clear hI1
    have HB := Lib.hid hb; clear hb
    have HM := Lib.hid hm; clear hm
    unfold badV
    go_wp2
    go_ret
    exact ⟨b, rfl, HB.out, HI1.out, HM.out.mono (by simp), hbq⟩
end Go.Proofs.Ytlpjeckhejbkkaa
end

section
set_option linter.unusedVariables false
set_option linter.unusedSimpArgs false
set_option maxRecDepth 20000
set_option maxHeartbeats 400000
namespace Go.Proofs.Ytlpjeckhejbkkaa
open Go.RowKit

theorem heap_size_alloc (w : World) (o : Obj) : (w.alloc o).heap.size = w.heap.size + 1 := by simp
def hasF (k : Int) : List Fld := if k = 1 ∨ k = 3 ∨ k = 4 then [.text] else if k = 6 then [.number] else if k = 8 then [.text, .at_] else if k = 9 then [.at_] else []
def othersF (k : Int) : List Fld := if k = 1 ∨ k = 3 ∨ k = 4 then [.number, .at_] else if k = 6 then [.text, .at_] else if k = 8 then [.number] else if k = 9 then [.text, .number] else [.text, .number, .at_]
def FieldsP (w : World) (k : Int) (e : Ending) (w' : World) : Prop :=
  ∃ g1 g2 v1 v2, e = .returned (.tuple #[v1, v2]) ∧ FS w' g1 v1 (hasF k) ∧ FS w' g2 v2 (othersF k) ∧ Mod [] w w' ∧ w.heap.size ≤ g1 ∧ w.heap.size ≤ g2
theorem FS.new (w : World) (l : List Fld) (hl : l.length ≤ 3) : FS (w.alloc (.cells (l.flatMap Fld.cells).toArray 120)) w.heap.size (.slice (some ⟨w.heap.size, 0, none⟩) l.length l.length) l := by
  refine ⟨?_, _, _, rfl, Nat.le_refl _, by unfold maxLen; omega, fun _ => ⟨0, rfl, by simp, fun i u hu => ?_⟩⟩
  · induction l with
    | nil => rfl
    | cons f l ih => rw [List.flatMap_cons, List.length_append, f.cells_length, ih (by simp at hl; omega), List.length_cons]; omega
  · rw [Nat.zero_add, (Blk.new w _ _).cell i]
    simpa using hu
theorem fields_ab (w : World) (k : Int) (la lb : List Fld) (ha : la.length ≤ 3) (hb : lb.length ≤ 3) (e1 : hasF k = la) (e2 : othersF k = lb) :
    FieldsP w k (.returned (.tuple #[.slice (some ⟨w.heap.size, 0, none⟩) la.length la.length, .slice (some ⟨w.heap.size + 1, 0, none⟩) lb.length lb.length]))
      ((w.alloc (.cells (la.flatMap Fld.cells).toArray 120)).alloc (.cells (lb.flatMap Fld.cells).toArray 120)).drew := by
  have h2 := FS.new (w.alloc (.cells (la.flatMap Fld.cells).toArray 120)) lb hb
  rw [heap_size_alloc] at h2
  refine ⟨w.heap.size, w.heap.size + 1, _, _, rfl, ?_, ?_, (((Mod.refl [] w).alloc _).alloc _).drew, by omega, by omega⟩
  · rw [e1]; exact (FS.new w la ha).mod (((Mod.refl [] _).alloc _).drew) (by simp)
  · rw [e2]; exact h2.mod (Mod.refl [] _).drew (by simp)
theorem fields_ba (w : World) (k : Int) (la lb : List Fld) (ha : la.length ≤ 3) (hb : lb.length ≤ 3) (e1 : hasF k = la) (e2 : othersF k = lb) :
    FieldsP w k (.returned (.tuple #[.slice (some ⟨w.heap.size + 1, 0, none⟩) la.length la.length, .slice (some ⟨w.heap.size, 0, none⟩) lb.length lb.length]))
      ((w.alloc (.cells (lb.flatMap Fld.cells).toArray 120)).alloc (.cells (la.flatMap Fld.cells).toArray 120)).drew := by
  have h2 := FS.new (w.alloc (.cells (lb.flatMap Fld.cells).toArray 120)) la ha
  rw [heap_size_alloc] at h2
  refine ⟨w.heap.size + 1, w.heap.size, _, _, rfl, ?_, ?_, (((Mod.refl [] w).alloc _).alloc _).drew, by omega, by omega⟩
  · rw [e1]; exact h2.mod (Mod.refl [] _).drew (by simp)
  · rw [e2]; exact (FS.new w lb hb).mod (((Mod.refl [] _).alloc _).drew) (by simp)
theorem fields_nb (w : World) (k : Int) (lb : List Fld) (hb : lb.length ≤ 3) (e1 : hasF k = []) (e2 : othersF k = lb) :
    FieldsP w k (.returned (.tuple #[.slice none 0 0, .slice (some ⟨w.heap.size, 0, none⟩) lb.length lb.length])) (w.alloc (.cells (lb.flatMap Fld.cells).toArray 120)).drew := by
  refine ⟨w.heap.size, w.heap.size, _, _, rfl, ?_, ?_, ((Mod.refl [] w).alloc _).drew, by omega, by omega⟩
  · rw [e1]; exact RS.nil _ _ _
  · rw [e2]; exact (FS.new w lb hb).mod (Mod.refl [] _).drew (by simp)
theorem FieldsP.of_mod {w w1 w' : World} {k : Int} {e : Ending} (hm : Mod [] w w1) (h : FieldsP w1 k e w') : FieldsP w k e w' := by
  obtain ⟨g1, g2, v1, v2, he, h1, h2, h3, h4, h5⟩ := h
  have := hm.size
  exact ⟨g1, g2, v1, v2, he, h1, h2, hm.trans h3, by omega, by omega⟩
set_option maxHeartbeats 2000000 in
theorem fields_any (k : Int) (w : World) : Calls Try.prog 63 #[.int .i64 k] w (FieldsP w k) := by
  go_enter Try.func63, Try.ntmps63
  go_wp2_with fail
  refine (text_any _).mono ?_
  rintro e' w1 ⟨rfl, hm1⟩
  go_wp2_with fail
  refine (number_fld _).mono ?_
  rintro e' w2 ⟨rfl, hm2⟩
  go_wp2_with fail
  refine (at_fld _).mono ?_
  rintro e' w3 ⟨rfl, hm3⟩
  have HM := Lib.hid ((hm1.trans hm2).trans hm3)
  clear hm1 hm2 hm3
  have hb0 := ((Blk.new w3 120 #[.nilFunc, .nilFunc, .nilFunc]).alloc (.cells #[.nilFunc, .nilFunc, .nilFunc] 120)).alloc (.cells #[.nilFunc, .nilFunc, .nilFunc] 120)
  have hb1 := (Blk.new (w3.alloc (.cells #[.nilFunc, .nilFunc, .nilFunc] 120)) 120 #[.nilFunc, .nilFunc, .nilFunc]).alloc (.cells #[.nilFunc, .nilFunc, .nilFunc] 120)
  have hb2 := Blk.new ((w3.alloc (.cells #[.nilFunc, .nilFunc, .nilFunc] 120)).alloc (.cells #[.nilFunc, .nilFunc, .nilFunc] 120)) 120 #[.nilFunc, .nilFunc, .nilFunc]
  rw [heap_size_alloc] at hb1
  rw [heap_size_alloc, heap_size_alloc] at hb2
  have HB0 := Lib.hid hb0; have HB1 := Lib.hid hb1; have HB2 := Lib.hid hb2; clear hb0 hb1 hb2
  go_wp2_with (first | ((with_reducible refine wpList_store_blk rtFld (cells := Fld.text.cells) _ _ rfl ?hgd ?hx ?hy HB0.out ?hl ?hold (Fld.one _) ?_); (case hgd => exact rfl); (case hx => exact rfl); (case hy => exact rfl); (case hl => exact rfl); (case hold => exact rfl); intro w4 hv4 hm4; have HT4 := Lib.hid hv4; have HN4 := Lib.hid (HB1.out.mod hm4 (by simp)); have HA4 := Lib.hid (HB2.out.mod hm4 (by simp; omega)); have HM4 := Lib.hid (((((Mod.refl [] w3).alloc _).alloc _).alloc _).then hm4 (by simp)); clear hv4 hm4) | ((with_reducible refine wpList_store_blk rtFld (cells := Fld.number.cells) _ _ rfl ?hgd ?hx ?hy HN4.out ?hl ?hold (Fld.one _) ?_); (case hgd => exact rfl); (case hx => exact rfl); (case hy => exact rfl); (case hl => exact rfl); (case hold => exact rfl); intro w5 hv5 hm5; have HN5 := Lib.hid hv5; have HT5 := Lib.hid (HT4.out.mod hm5 (by simp)); have HA5 := Lib.hid (HA4.out.mod hm5 (by simp)); have HM5 := Lib.hid (HM4.out.then hm5 (by simp)); clear hv5 hm5) | ((with_reducible refine wpList_store_blk rtFld (cells := Fld.at_.cells) _ _ rfl ?hgd ?hx ?hy HA5.out ?hl ?hold (Fld.one _) ?_); (case hgd => exact rfl); (case hx => exact rfl); (case hy => exact rfl); (case hl => exact rfl); (case hold => exact rfl); intro w6 hv6 hm6; have HA := Lib.hid hv6; have HT := Lib.hid (HT5.out.mod hm6 (by simp; omega)); have HN := Lib.hid (HN5.out.mod hm6 (by simp)); have HM6 := Lib.hid (HM.out.trans (HM5.out.then hm6 (by simp; omega))); clear hv6 hm6 HM HM4 HM5 HB0 HB1 HB2 HT4 HN4 HA4 HT5 HN5 HA5))
  all_goals
    have t0 := HT.out.cell 0
    have t1 := HT.out.cell 1
    have t2 := HT.out.cell 2
    have n0 := HN.out.cell 0
    have n1 := HN.out.cell 1
    have n2 := HN.out.cell 2
    have a0 := HA.out.cell 0
    have a1 := HA.out.cell 1
    have a2 := HA.out.cell 2
    have tl := HT.out.lt
    have nl := HN.out.lt
    have al := HA.out.lt
    simp only [Fld.cells, List.getElem?_toArray, List.getElem?_cons_zero, List.getElem?_cons_succ, fnv] at t0 t1 t2 n0 n1 n2 a0 a1 a2
  · go_region
    all_goals
      go_wp2
      go_ret2
      (first | exact FieldsP.of_mod HM6.out (fields_ab w6 k [.text] [.number, .at_] (by decide) (by decide) (by simp_all [hasF]) (by simp_all [othersF])) | exact FieldsP.of_mod HM6.out (fields_ba w6 k [.text] [.number, .at_] (by decide) (by decide) (by simp_all [hasF]) (by simp_all [othersF])))
  · go_region
    all_goals
      go_wp2
      go_ret2
      (first | exact FieldsP.of_mod HM6.out (fields_ab w6 k [.text] [.number, .at_] (by decide) (by decide) (by simp_all [hasF]) (by simp_all [othersF])) | exact FieldsP.of_mod HM6.out (fields_ba w6 k [.text] [.number, .at_] (by decide) (by decide) (by simp_all [hasF]) (by simp_all [othersF])))
  · go_region
    all_goals
      go_wp2
      go_ret2
      (first | exact FieldsP.of_mod HM6.out (fields_ab w6 k [.text] [.number, .at_] (by decide) (by decide) (by simp_all [hasF]) (by simp_all [othersF])) | exact FieldsP.of_mod HM6.out (fields_ba w6 k [.text] [.number, .at_] (by decide) (by decide) (by simp_all [hasF]) (by simp_all [othersF])))
  · go_region
    all_goals
      go_wp2
      go_ret2
      (first | exact FieldsP.of_mod HM6.out (fields_ab w6 k [.number] [.text, .at_] (by decide) (by decide) (by simp_all [hasF]) (by simp_all [othersF])) | exact FieldsP.of_mod HM6.out (fields_ba w6 k [.number] [.text, .at_] (by decide) (by decide) (by simp_all [hasF]) (by simp_all [othersF])))
  · go_region
    all_goals
      go_wp2
      go_ret2
      (first | exact FieldsP.of_mod HM6.out (fields_ab w6 k [.text, .at_] [.number] (by decide) (by decide) (by simp_all [hasF]) (by simp_all [othersF])) | exact FieldsP.of_mod HM6.out (fields_ba w6 k [.text, .at_] [.number] (by decide) (by decide) (by simp_all [hasF]) (by simp_all [othersF])))
  · go_region
    all_goals
      go_wp2
      go_ret2
      (first | exact FieldsP.of_mod HM6.out (fields_ab w6 k [.at_] [.text, .number] (by decide) (by decide) (by simp_all [hasF]) (by simp_all [othersF])) | exact FieldsP.of_mod HM6.out (fields_ba w6 k [.at_] [.text, .number] (by decide) (by decide) (by simp_all [hasF]) (by simp_all [othersF])))
  · go_region
    all_goals
      go_wp2
      go_ret2
      exact FieldsP.of_mod HM6.out (fields_nb w6 k [.text, .number, .at_] (by decide) (by simp_all [hasF]) (by simp_all [othersF]))
end Go.Proofs.Ytlpjeckhejbkkaa
end

section
set_option linter.unusedVariables false
set_option linter.unusedSimpArgs false
set_option maxRecDepth 20000
set_option maxHeartbeats 400000
namespace Go.Proofs.Ytlpjeckhejbkkaa
open Go.RowKit

theorem FS.item {w : World} {g : Nat} {v : Value} {l : List Fld} (h : FS w g v l) (h0 : 0 < l.length) :
    ∃ off cap, v = .slice (some ⟨g, off, none⟩) l.length cap ∧ l.length ≤ cap ∧ cap ≤ maxLen ∧ g < w.heap.size ∧ ∀ (i : Nat) (hi : i < l.length), CellsAt w g (off + i * 3) l[i].cells := RS.item Fld.cells_length h h0
theorem wpList_load_fld {ops : Array Oper} {rest : List Oper} {op : Oper} {a : Act} {w : World} {Q : Exit → Act → World → Prop} (x : Operand) (ho : op.op = .load 120 x) (hgd : Region.wanted op (yielded ops a.tmps) = true) {b k : Nat} {f : Fld} (H : CellsAt w b k f.cells) (hx : a.eval x = .pointer (some ⟨b, k, none⟩))
    (h : wpList Try.prog ops Q rest (a.put op.dst f.val) w) : wpList Try.prog ops Q (op :: rest) a w :=
  wpList_load_cells rtFld x ho hgd hx f.cells_length H h
theorem wpList_store_fld {ops : Array Oper} {rest : List Oper} {op : Oper} {a : Act} {w : World} {Q : Exit → Act → World → Prop} (x y : Operand) (ho : op.op = .store 120 x y) (hgd : Region.wanted op (yielded ops a.tmps) = true) {g : Nat} {f : Fld} {old : Array Value} (hx : a.eval x = .pointer (some ⟨g, 0, none⟩)) (hy : a.eval y = f.val) (hb : Blk w g 120 old) (hold : old.size = 3)
    (h : ∀ w', Blk w' g 120 f.cells.toArray → Mod [g] w w' → wpList Try.prog ops Q rest (a.put op.dst undef) w') : wpList Try.prog ops Q (op :: rest) a w :=
  wpList_store_blk rtFld x y ho hgd hx hy hb f.cells_length hold f.one h
def Fld.fn (f : Fld) : Nat × Nat × Nat := match f with
  | .text => (91, 92, 93)
  | .number => (94, 95, 97)
  | .at_ => (99, 100, 101)
theorem Fld.cells_eq (f : Fld) : f.cells.toArray = #[.func (.func f.fn.1) #[] #[], .func (.func f.fn.2.1) #[] #[], .func (.func f.fn.2.2) #[] #[]] := by cases f <;> rfl
theorem run_enter {P : Program} {f : FuncId} {fn : Func} (hf : P.funcs[f]? = some fn) (hname : (fn.name == "runtime.NumGoroutine") = false) (hb : fn.body.isNone = false) (args : Array Value) (w : World) :
    (callFunc f args).run P w = .ok (.enter f args) w := by
  have h1 : fn.name ≠ "runtime.NumGoroutine" := by simpa using hname
  have hb : fn.body ≠ none := by rintro e; rw [e] at hb; simp at hb
  simp [callFunc, hf, h1, hb]
theorem fld_enter0 (f : Fld) (args : Array Value) (w : World) : (callFunc f.fn.1 args).run Try.prog w = .ok (.enter f.fn.1 args) w := by
  cases f
  · exact run_enter Try.func91 (by kernel_rfl) (by kernel_rfl) args w
  · exact run_enter Try.func94 (by kernel_rfl) (by kernel_rfl) args w
  · exact run_enter Try.func99 (by kernel_rfl) (by kernel_rfl) args w
theorem fld_enter1 (f : Fld) (args : Array Value) (w : World) : (callFunc f.fn.2.1 args).run Try.prog w = .ok (.enter f.fn.2.1 args) w := by
  cases f
  · exact run_enter Try.func92 (by kernel_rfl) (by kernel_rfl) args w
  · exact run_enter Try.func95 (by kernel_rfl) (by kernel_rfl) args w
  · exact run_enter Try.func100 (by kernel_rfl) (by kernel_rfl) args w
theorem fld_enter2 (f : Fld) (args : Array Value) (w : World) : (callFunc f.fn.2.2 args).run Try.prog w = .ok (.enter f.fn.2.2 args) w := by
  cases f
  · exact run_enter Try.func93 (by kernel_rfl) (by kernel_rfl) args w
  · exact run_enter Try.func97 (by kernel_rfl) (by kernel_rfl) args w
  · exact run_enter Try.func101 (by kernel_rfl) (by kernel_rfl) args w
theorem fldZero_any (f : Fld) (o : GOp) (w : World) : Calls Try.prog f.fn.1 #[o.val] w fun e w' => e = .returned (.bool (Fld.zero f o)) ∧ Mod [] w w' := by
  cases f
  · exact textZero_any o w
  · exact numberZero_any o w
  · exact atZero_any o w
theorem fldLay_any (f : Fld) (o : GOp) (p : Nat) (F : List Nat) (xs : Bytes) (w : World) (hO : OutB w p F xs) (hs : Fld.fits f o) (hz : xs.length ≤ 170000000000000) :
    Calls Try.prog f.fn.2.1 #[ptr p, o.val] w (OutP w p F (xs ++ Fld.lay f o)) := by
  cases f
  · exact textLay_any o p F xs w hO hs hz
  · exact numberLay_any o p F xs w hO hs hz
  · exact atLay_any o p F xs w hO hs hz
theorem fldRead_any (f : Fld) (o : GOp) (p g q : Nat) (xs : Bytes) (w : World) (n0 : Nat) (hI : InB w p g xs n0 .nilIface) (hn : n0 ≤ xs.length) (hz : xs.length ≤ 140737488355328) (hq : OpV w q o) (hqp : q ≠ p) (hqg : 0 < xs.length → g ≠ q) :
    Calls Try.prog f.fn.2.2 #[ptr p, ptr q] w (ReadP w p g q xs (rdFld f xs n0 o)) := by
  cases f
  · exact textRead_any o p g q xs w n0 hI hn hz hq hqp hqg
  · exact numberRead_any o p g q xs w n0 hI hn hz hq hqp hqg
  · exact atRead_any o p g q xs w n0 hI hn hz hq hqp hqg
theorem othersF_length (k : Int) : (othersF k).length ≤ 3 := by
  unfold othersF
  split
  · simp
  split
  · simp
  split
  · simp
  split <;> simp
theorem hasF_length (k : Int) : (hasF k).length ≤ 3 := by
  unfold hasF
  split
  · simp
  split
  · simp
  split
  · simp
  split <;> simp
def bad41 (o : GOp) : Prop := (hasText o.kind = false ∧ o.text.size ≠ 0) ∨ (o.kind ≠ 6 ∧ o.n ≠ 0) ∨ (hasAt o.kind = false ∧ o.at_ ≠ GIdent.zero)
theorem bad41_iff (o : GOp) (hk : known o.kind = true) : bad41 o ↔ ∃ f ∈ othersF o.kind, Fld.zero f o = false := by
  unfold known at hk
  have hk := of_decide_eq_true hk
  have h9 : o.kind = 1 ∨ o.kind = 2 ∨ o.kind = 3 ∨ o.kind = 4 ∨ o.kind = 5 ∨ o.kind = 6 ∨ o.kind = 7 ∨ o.kind = 8 ∨ o.kind = 9 := by omega
  rcases h9 with h | h | h | h | h | h | h | h | h <;> simp [bad41, hasText, hasAt, othersF, Fld.zero, h]
theorem wrong40 {l : List GOp} {o : GOp} (h : (!known o.kind) = true) : wrongOp l o = 40 := by
  unfold wrongOp
  rw [if_pos (by simpa using h)]
theorem wrong4 {l : List GOp} {o : GOp} (h : (!known o.kind) = false) (h1 : 65536 < o.key.size ∨ 65536 < o.text.size) : wrongOp l o = 4 := by
  unfold wrongOp
  rw [if_neg (by simpa using h), if_pos h1]
theorem wrong41 {l : List GOp} {o : GOp} (h : (!known o.kind) = false) (h1 : ¬ (65536 < o.key.size ∨ 65536 < o.text.size)) (h2 : bad41 o) : wrongOp l o = 41 := by
  unfold wrongOp
  unfold bad41 at h2
  rw [if_neg (by simpa using h), if_neg h1, if_pos h2]
theorem wrong42 {l : List GOp} {o : GOp} (h : (!known o.kind) = false) (h1 : ¬ (65536 < o.key.size ∨ 65536 < o.text.size)) (h2 : ¬ bad41 o) (h3 : hasAt o.kind = true ∧ atMay l o = false) : wrongOp l o = 42 := by
  unfold wrongOp
  unfold bad41 at h2
  rw [if_neg (by simpa using h), if_neg h1, if_neg h2, if_pos h3]
theorem wrong0 {l : List GOp} {o : GOp} (h : (!known o.kind) = false) (h1 : ¬ (65536 < o.key.size ∨ 65536 < o.text.size)) (h2 : ¬ bad41 o) (h3 : ¬ (hasAt o.kind = true ∧ atMay l o = false)) : wrongOp l o = 0 := by
  unfold wrongOp
  unfold bad41 at h2
  rw [if_neg (by simpa using h), if_neg h1, if_neg h2, if_neg h3]
theorem cell_at (k : Int) : (cellOf k == 4) = hasAt k := by
  unfold cellOf hasAt
  rw [Bool.eq_iff_iff]
  simp only [beq_iff_eq, Bool.or_eq_true]
  split
  · omega
  split
  · omega
  split
  · omega
  split <;> omega
theorem wrong_any (l : List GOp) (o : GOp) (g : Nat) (v : Value) (w : World) (hs : OS w g v l) :
    Calls Try.prog 57 #[v, o.val] w fun e w' => e = .returned (.int .i64 (wrongOp l o)) ∧ Mod [] w w' := by
  go_enter Try.func57, Try.ntmps57
  go_wp2_with (first | ((with_reducible refine wpList_box_op _ rfl ?hgd (o := o) ?hx ?_); (case hgd => exact rfl); (case hx => exact rfl); intro q1 w1 hv1 hm1 hq1 hl1; have HV1 := Lib.hid hv1; obtain ⟨c0, c1, c2, c3, c36, HA0, HA4, HH4⟩ := hv1.open_; have HS1 := Lib.hid (hs.mod hm1 (by simp)); have HM1 := Lib.hid hm1; clear hv1 hm1))
  refine (fields_any o.kind w1).mono ?_
  rintro e' w2 ⟨g1, g2, v1, v2, rfl, hf1, hf2, hm2, _, _⟩
  obtain ⟨A2, cap2, rfl, _, _⟩ := hf2.val
  have HV2 : Hid (OpV w2 q1 o) := Lib.hid (HV1.out.mod hm2 (by simp))
  have HS2 : Hid (OS w2 g v l) := Lib.hid (HS1.out.mod hm2 (by simp))
  have HF2 : Hid (FS w2 g2 _ (othersF o.kind)) := Lib.hid hf2
  have HM2 := Lib.hid (HM1.out.trans hm2)
  clear hf1 hf2 hm2 HV1 HS1 HM1 c0 c1 c2 c3 c36 HA0 HA4 HH4
  obtain ⟨c0, c1, c2, c3, c36, HA0, HA4, HH4⟩ := HV2.out.open_
  go_wp2_with (first | (go_at_call 74; refine (known_any _ _).mono ?_; rintro e' w3 ⟨rfl, rfl⟩))
  all_goals try (go_ret; refine ⟨ret_int ?_, HM2.out⟩; first | (rw [wrong40 (by assumption)]; rfl) | (rw [wrong4 (by assumption) (by omega)]; rfl))
  have HK : Hid ((!known o.kind) = false) := Lib.hid (by assumption)
  have HZ0 : Hid (¬ (65536 < o.key.size ∨ 65536 < o.text.size)) := Lib.hid (by omega)
  have HB := Lib.hid (bad41_iff o (by have := HK.out; simpa using this))
  have hL3 : (othersF o.kind).length ≤ 3 := othersF_length _
  generalize othersF o.kind = L at *
  go_loopw [33] (fun s wr => ∃ j : Nat, s = .int .i64 (j : Int) ∧ j ≤ L.length ∧ Hid (OpV wr q1 o) ∧ Hid (OS wr g v l) ∧ Hid (FS wr g2 (.slice A2 L.length cap2) L) ∧ Hid (Mod [] w wr) ∧ Hid (∀ f ∈ L.take j, Fld.zero f o = true)) (fun s _ => L.length - (intOf s).toNat)
  case atStart => exact ⟨0, rfl, by omega, HV2, HS2, HF2, HM2, Lib.hid (by simp)⟩
  case round =>
    obtain ⟨j, rfl, hj, HV, HS, HF, HM, HZ⟩ := hrel
    clear HV2 HS2 HF2 HM2 c0 c1 c2 c3 c36 HA0 HA4 HH4
    obtain ⟨c0, c1, c2, c3, c36, HA0, HA4, HH4⟩ := HV.out.open_
    by_cases hjl : j < L.length
    · obtain ⟨off, cap', hv', _, _, _, hit⟩ := HF.out.item (by omega)
      injection hv' with hA _ hcap
      subst hA
      subst hcap
      have HC0 := Lib.hid (hit j hjl)
      clear hit
      obtain ⟨f, hf⟩ : ∃ f, L[j] = f := ⟨_, rfl⟩
      rw [hf] at HC0
      have hfm : f ∈ L := by rw [← hf]; exact List.getElem_mem hjl
      have HW : Hid (f ∈ L) := Lib.hid hfm
      have HTK : Hid (L.take (j + 1) = L.take j ++ [f]) := Lib.hid (by rw [List.take_succ_eq_append_getElem hjl, hf])
      clear hfm
      go_wp2_with (first | ((with_reducible refine wpList_load_fld _ rfl ?hgd HC0.out ?hx ?_); (case hgd => exact rfl); (case hx => exact rfl)) | ((with_reducible refine wpList_store_fld (f := f) _ _ rfl ?hgd ?hx ?hy (Blk.new _ _ _) ?hold ?_); (case hgd => exact rfl); (case hx => exact rfl); (case hy => exact rfl); (case hold => exact rfl); intro w4 hv4 hm4; have c4 := hv4.cell 0; rw [Fld.cells_eq] at c4; simp only [List.getElem?_toArray, List.getElem?_cons_zero] at c4; have hm5 := (((Mod.refl [] wr).alloc _).then hm4 (by simp)); have HV4 : Hid (OpV w4 q1 o) := Lib.hid (HV.out.mod hm5 (by simp)); have HO : Hid (OpAt w4 q1 0 o) := Lib.hid (CellsAt.of_blk HV4.out); have HS4 : Hid (OS w4 g v l) := Lib.hid (HS.out.mod hm5 (by simp)); have HF4 : Hid (FS w4 g2 _ L) := Lib.hid (HF.out.mod hm5 (by simp)); have HM4 := Lib.hid (HM.out.trans hm5); clear hv4 hm4 hm5) | ((with_reducible refine wpList_load_op _ rfl ?hgd HO.out ?hx ?_); (case hgd => exact rfl); (case hx => exact rfl)))
      rw [fld_enter0, Oper.upon_enter]
      refine (fldZero_any f o w4).mono ?_
      rintro e' w5 ⟨rfl, hm5⟩
      have HV5 : Hid (OpV w5 q1 o) := Lib.hid (HV4.out.mod hm5 (by simp))
      have HS5 : Hid (OS w5 g v l) := Lib.hid (HS4.out.mod hm5 (by simp))
      have HF5 : Hid (FS w5 g2 _ L) := Lib.hid (HF4.out.mod hm5 (by simp))
      have HM5 := Lib.hid (HM4.out.trans hm5)
      clear hm5 HV4 HS4 HF4 HM4 HV HS HF HM c0 c1 c2 c3 c36 HA0 HA4 HH4 c4
      go_wp2
      · go_ret
        refine ⟨ret_int ?_, HM5.out⟩
        rw [wrong41 HK.out HZ0.out (HB.out.2 ⟨f, HW.out, by simp_all⟩)]
        rfl
      · go_roundw
        case rel => exact ⟨j + 1, by go_num, by omega, HV5, HS5, HF5, HM5, Lib.hid (by rw [HTK.out]; intro f' hf'; rcases List.mem_append.1 hf' with h | h; exact HZ.out f' h; rw [List.mem_singleton.1 h]; simp_all)⟩
        case measure => simp [intOf]; omega
    · have hje : j = L.length := by omega
      subst hje
      have HNB : Hid (¬ bad41 o) := Lib.hid (fun h => by
        obtain ⟨f, hf, h0⟩ := HB.out.1 h
        have := HZ.out f (by simpa using hf)
        rw [h0] at this
        cases this)
      have HO : Hid (OpAt wr q1 0 o) := Lib.hid (CellsAt.of_blk HV.out)
      clear hj HZ HB
      cases hat : hasAt o.kind
      · have hc4 : (cellOf o.kind == 4) = false := by rw [cell_at]; exact hat
        go_wp2_with (first | (go_at_call 75; refine (cell_any _ _).mono ?_; rintro e' w3 ⟨rfl, rfl⟩) | ((with_reducible refine wpList_load_op _ rfl ?hgd HO.out ?hx ?_); (case hgd => exact rfl); (case hx => exact rfl)))
        go_ret
        refine ⟨ret_int ?_, HM.out⟩
        rw [wrong0 HK.out HZ0.out HNB.out (by rw [hat]; simp)]
        rfl
      · have hc4 : (cellOf o.kind == 4) = true := by rw [cell_at]; exact hat
        go_wp2_with (first | (go_at_call 75; refine (cell_any _ _).mono ?_; rintro e' w3 ⟨rfl, rfl⟩) | ((with_reducible refine wpList_load_op _ rfl ?hgd HO.out ?hx ?_); (case hgd => exact rfl); (case hx => exact rfl)))
        refine (right_any l o g v wr HS.out).mono ?_
        rintro e' w4 ⟨rfl, hm4⟩
        have HM4 := Lib.hid (HM.out.trans hm4)
        clear hm4
        cases hmay : atMay l o
        · go_wp2
          go_ret
          refine ⟨ret_int ?_, HM4.out⟩
          rw [wrong42 HK.out HZ0.out HNB.out ⟨hat, hmay⟩]
          rfl
        · go_wp2
          go_ret
          refine ⟨ret_int ?_, HM4.out⟩
          rw [wrong0 HK.out HZ0.out HNB.out (by rw [hmay]; simp)]
          rfl
end Go.Proofs.Ytlpjeckhejbkkaa
end

section
set_option linter.unusedVariables false
set_option linter.unusedSimpArgs false
set_option maxRecDepth 20000
set_option maxHeartbeats 400000
namespace Go.Proofs.Ytlpjeckhejbkkaa
open Go.RowKit

theorem flat_take (l : List GOp) (j : Nat) : (l.flatMap GOp.cells).take (j * 37) = (l.take j).flatMap GOp.cells := by
  induction l generalizing j with
  | nil => simp
  | cons o l ih =>
    cases j with
    | zero => simp
    | succ j =>
      rw [List.flatMap_cons, List.take_succ_cons, List.flatMap_cons, List.take_append, o.cells_length, List.take_of_length_le (by rw [o.cells_length]; omega)]
      congr 1
      rw [← ih j]
      congr 1
      omega
theorem OS.take {w : World} {g cap : Nat} {A : Option Addr} {l : List GOp} (h : OS w g (.slice A l.length cap) l) (j : Nat) (hj : j ≤ l.length) : OS w g (.slice A j cap) (l.take j) := by
  obtain ⟨_, _, hv, hc, hm⟩ := h.val
  injection hv with _ _ hv
  subst hv
  have := h.cut (lo := 0) (n := j) (c' := cap) (A' := A) (by omega) (by omega) hm (fun h0 => by cases A <;> simp [Addr.add])
  rw [Nat.zero_mul, List.drop_zero, flat_take] at this
  have e : (l.take j).length = j := by simp; omega
  unfold OS
  rw [e]
  exact this
theorem checkFrom_drop (l : List GOp) (j : Nat) (hj : j < l.length) (hw : wrongOp (l.take j) l[j] = 0) : checkFrom (l.take j) (l.drop j) = checkFrom (l.take (j + 1)) (l.drop (j + 1)) := by
  rw [List.drop_eq_getElem_cons hj, checkFrom, if_pos hw, List.take_succ_eq_append_getElem hj]
theorem checkFrom_bad (l : List GOp) (j : Nat) (hj : j < l.length) (hw : wrongOp (l.take j) l[j] ≠ 0) : checkFrom (l.take j) (l.drop j) = (wrongOp (l.take j) l[j], j) := by
  rw [List.drop_eq_getElem_cons hj, checkFrom, if_neg hw, List.length_take, Nat.min_eq_left (by omega)]
def SO (w : World) (q : Nat) (o : GOp) (W : World) : Prop := OpIn W q 0 ∧ opOf W q 0 = o ∧ Mod [] w W
theorem SO.step {w W W' : World} {q : Nat} {o : GOp} (h : OpIn W q 0 ∧ opOf W q 0 = o ∧ Mod [] w W) (hm : Mod [] W W') : OpIn W' q 0 ∧ opOf W' q 0 = o ∧ Mod [] w W' := by
  obtain ⟨⟨p, hp⟩, h2, h3⟩ := h
  rw [hp.in_.2] at h2
  subst h2
  have := (op_in hp hm (by simp)).in_
  exact ⟨this.1, this.2, h3.trans hm⟩
theorem OS.keep {w W : World} {q g : Nat} {o : GOp} {v : Value} {l : List GOp} (h : OS w g v l) (hS : OpIn W q 0 ∧ opOf W q 0 = o ∧ Mod [] w W) : OS W g v l := h.mod hS.2.2 (by simp)
theorem ret_chk {a b a' b' : Int} {k1 k2 : IntKind} (ha : a = a') (hb : b = b') : Ending.returned (.tuple #[.int k1 a, .int k2 b]) = .returned (.tuple #[.int k1 a', .int k2 b']) := by rw [ha, hb]
theorem check_any (l : List GOp) (g : Nat) (v : Value) (w : World) (hs : OS w g v l) :
    Calls Try.prog 32 #[v] w fun e w' => e = .returned (.tuple #[.int .i64 (checkOps l).1, .int .i64 (checkOps l).2]) ∧ Mod [] w w' := by
  obtain ⟨A, cap, rfl, hc, hm⟩ := hs.val
  have HS := Lib.hid hs; clear hs
  by_cases hbig : 1024 < l.length
  · have HE : Hid (checkOps l = (3, 0)) := Lib.hid (by rw [checkOps, if_pos hbig])
    go_enter Try.func32, Try.ntmps32
    go_wp2
    go_ret2
    exact ⟨ret_chk (by rw [HE.out]; rfl) (by rw [HE.out]; rfl), Mod.refl _ _⟩
  · have HE : Hid (checkOps l = checkFrom [] l) := Lib.hid (by rw [checkOps, if_neg hbig])
    go_enter Try.func32, Try.ntmps32
    go_wp2
    go_loopw [12] (fun s wr => ∃ j : Nat, s = .int .i64 (j : Int) ∧ j ≤ l.length ∧ Hid (OS wr g (.slice A l.length cap) l) ∧ Hid (Mod [] w wr) ∧ Hid (checkFrom (l.take j) (l.drop j) = checkFrom [] l)) (fun s _ => l.length - (intOf s).toNat)
    case atStart => exact ⟨0, rfl, by omega, HS, Lib.hid (Mod.refl _ _), Lib.hid (by simp)⟩
    case round =>
      obtain ⟨j, rfl, hj, HO, HM, HC⟩ := hrel
      by_cases hjl : j < l.length
      · obtain ⟨off, cap', hv', _, _, hgl, hit⟩ := HO.out.item (by omega)
        injection hv' with hA _ hcap
        subst hA
        subst hcap
        have HJ := Lib.hid (hit j hjl)
        clear hit hgl
        go_wp2_with (first | ((with_reducible refine wpList_load_op _ rfl ?hgd HJ.out ?hx ?_); (case hgd => exact rfl); (case hx => exact rfl)) | ((with_reducible refine wpList_store_op (o := l[j]) _ _ rfl ?hgd ?hx ?hy (Blk.new _ _ _) ?hold ?_); (case hgd => exact rfl); (case hx => exact rfl); (case hy => exact rfl); (case hold => exact rfl); intro w2 hv2 hm2; have hm3 := ((Mod.refl [] wr).alloc _).then hm2 (by simp); have HV : Hid (OpAt w2 wr.heap.size 0 l[j]) := Lib.hid (CellsAt.of_blk hv2); have HO2 : Hid (OS w2 g _ l) := Lib.hid (HO.out.mod hm3 (by simp)); have HM2 := Lib.hid (HM.out.trans hm3); clear hv2 hm2 hm3))
        have hb1 : (0 : Int) ≤ (j : Int) := by omega
        have hb2 : (j : Int) ≤ (cap : Int) := by omega
        have hov := (op_in HV.out (Mod.refl [] w2).drew (by simp)).in_
        have HT : Hid (OS w2 g (.slice (some ⟨g, off, none⟩) j cap) (l.take j)) := Lib.hid (HO2.out.take j hj)
        clear hm HS HO
        go_region_held3 (fun W => OpIn W wr.heap.size 0 ∧ opOf W wr.heap.size 0 = l[j] ∧ Mod [] w2 W) ((first | exact ⟨hov.1, hov.2, (Mod.refl [] w2).drew⟩ | exact SO.step (by assumption) (by assumption) | assumption)) ((first | (go_at_call 57; refine (wrong_any (l.take j) l[j] g _ _ (OS.keep HT.out (by assumption))).mono ?_; rintro e' w5 ⟨rfl, hm5⟩)))
        have hS5 : OpIn w5 wr.heap.size 0 ∧ opOf w5 wr.heap.size 0 = l[j] ∧ Mod [] w2 w5 := by assumption
        have HM5 := Lib.hid (HM2.out.trans hS5.2.2)
        have HO5 : Hid (OS w5 g _ l) := Lib.hid (HO2.out.mod hS5.2.2 (by simp))
        obtain ⟨x, hx⟩ : ∃ x, wrongOp (l.take j) l[j] = x := ⟨_, rfl⟩
        have HX := Lib.hid hx
        rw [hx]
        clear hx hS5
        by_cases hx0 : x = 0
        · subst hx0
          go_wp2
          go_roundw
          case rel => exact ⟨j + 1, by go_num, by omega, HO5, HM5, Lib.hid ((checkFrom_drop l j hjl HX.out).symm.trans HC.out)⟩
          case measure => simp [intOf]; omega
        · have hxi : ¬ ((x : Int) = 0) := by omega
          have HR : Hid (checkOps l = (x, j)) := Lib.hid (by rw [HE.out, ← HC.out, checkFrom_bad l j hjl (by rw [HX.out]; exact hx0), HX.out])
          go_wp2
          go_ret2
          exact ⟨ret_chk (by rw [HR.out]) (by rw [HR.out]), HM5.out⟩
      · have hje : j = l.length := by omega
        subst hje
        have HR : Hid (checkOps l = (0, 0)) := Lib.hid (by rw [HE.out, ← HC.out]; simp [checkFrom])
        go_wp2
        go_ret2
        exact ⟨ret_chk (by rw [HR.out]; rfl) (by rw [HR.out]; rfl), HM.out⟩
end Go.Proofs.Ytlpjeckhejbkkaa
end

section
set_option linter.unusedVariables false
set_option linter.unusedSimpArgs false
set_option maxRecDepth 20000
set_option maxHeartbeats 400000
namespace Go.Proofs.Ytlpjeckhejbkkaa
open Go.RowKit

theorem Fresh.not {w : World} {F F' : List Nat} {q : Nat} (h : Fresh w F F') (hq : q ∉ F) (hl : q < w.heap.size) : q ∉ F' := fun hm => by
  rcases h q hm with h1 | h1
  · exact hq h1
  · omega
theorem RS.not {w : World} {sz g n : Nat} {v : Value} {cs : List Value} {F F' : List Nat} (h : RS w sz g v n cs) (hf : Fresh w F F') (hn : 0 < n → g ∉ F) : 0 < n → g ∉ F' := fun h0 => by
  obtain ⟨_, _, _, _, _, hl, _⟩ := h.at_ h0
  exact hf.not (hn h0) hl
/-- the numbers of an operation are numbers of the machine -/
def GOp.nums (o : GOp) : Prop := -9223372036854775808 ≤ o.n ∧ o.n ≤ 9223372036854775807
theorem putOp_eq (o : GOp) (hk : known o.kind = true) : putOp o = UInt8.ofNat (o.kind.toNat % 256) :: (putText o.key ++ (hasF o.kind).flatMap fun f => Fld.lay f o) := by
  unfold known at hk
  have hk := of_decide_eq_true hk
  have h9 : o.kind = 1 ∨ o.kind = 2 ∨ o.kind = 3 ∨ o.kind = 4 ∨ o.kind = 5 ∨ o.kind = 6 ∨ o.kind = 7 ∨ o.kind = 8 ∨ o.kind = 9 := by omega
  unfold putOp
  rcases h9 with h | h | h | h | h | h | h | h | h <;> simp [hasText, hasAt, hasF, Fld.lay, h]
theorem wrong_zero {l : List GOp} {o : GOp} (h : wrongOp l o = 0) : known o.kind = true ∧ o.key.size ≤ 65536 ∧ o.text.size ≤ 65536 ∧ ¬ bad41 o ∧ (hasAt o.kind = true → atMay l o = true) := by
  unfold wrongOp at h
  unfold bad41
  split at h
  · cases h
  · split at h
    · cases h
    · split at h
      · cases h
      · split at h
        · cases h
        · rename_i h1 h2 h3 h4
          refine ⟨by simpa using h1, by omega, by omega, h3, fun ha => ?_⟩
          rcases hm : atMay l o with _ | _
          · exact absurd ⟨ha, hm⟩ h4
          · rfl
theorem atMay_fits {l : List GOp} {o : GOp} (h : atMay l o = true) (hl : l.length ≤ 1024) : 0 ≤ o.at_.op ∧ o.at_.op ≤ 1024 := by
  unfold atMay at h
  split at h
  · split at h
    · omega
    · split at h
      · omega
      · cases h
  · have := of_decide_eq_true h
    omega
theorem hasF_at {k : Int} (h : Fld.at_ ∈ hasF k) : hasAt k = true := by
  unfold hasF at h
  unfold hasAt
  split at h
  · simp at h
  · split at h
    · simp at h
    · split at h
      · simp_all
      · split at h
        · simp_all
        · simp at h
theorem wrong_fits {l : List GOp} {o : GOp} (h : wrongOp l o = 0) (hl : l.length ≤ 1024) (hn : o.nums) : ∀ f ∈ hasF o.kind, Fld.fits f o := by
  obtain ⟨_, _, h1, _, h2⟩ := wrong_zero h
  intro f hf
  cases f
  · exact h1
  · exact hn
  · exact atMay_fits (h2 (hasF_at hf)) hl
theorem checkFrom_all (done l : List GOp) (h : (checkFrom done l).1 = 0) : ∀ j (hj : j < l.length), wrongOp (done ++ l.take j) l[j] = 0 := by
  induction l generalizing done with
  | nil => intro j hj; simp at hj
  | cons o l ih =>
    unfold checkFrom at h
    split at h
    · rename_i h0
      intro j hj
      cases j with
      | zero => simpa using h0
      | succ j => simpa using ih (done ++ [o]) h j (by simpa using hj)
    · rename_i h0
      exact absurd h h0
theorem check_all {l : List GOp} (h : (checkOps l).1 = 0) : l.length ≤ 1024 ∧ ∀ j (hj : j < l.length), wrongOp (l.take j) l[j] = 0 := by
  unfold checkOps at h
  split at h
  · cases h
  · exact ⟨by omega, by simpa using checkFrom_all [] l h⟩
theorem putText_length (s : ByteArray) (h : s.size ≤ 65536) : (putText s).length ≤ 65546 := by
  unfold putText
  have := putNum_length10 s.size (by omega)
  have e : s.data.toList.length = s.size := rfl
  rw [List.length_append, e]
  omega
theorem zig_lt (x : Int) (h0 : -9223372036854775808 ≤ x) (h1 : x ≤ 9223372036854775807) : zig x < 18446744073709551616 := by unfold zig; split <;> omega
theorem lay_length (f : Fld) (o : GOp) (h : Fld.fits f o) (ht : o.text.size ≤ 65536) : (Fld.lay f o).length ≤ 65546 := by
  cases f
  · exact putText_length _ h
  · have := putNum_length10 (zig o.n) (zig_lt _ h.1 h.2)
    show (putNum (zig o.n)).length ≤ 65546
    omega
  · show (putAt o.at_).length ≤ 65546
    unfold putAt
    have h1 := h.1
    have h2 := h.2
    have := putNum_length10 o.at_.op.toNat (by omega)
    rw [List.length_append]
    split
    · simp; omega
    · have := o.at_.node.h
      omega
theorem layList_length (L : List Fld) (o : GOp) (h : ∀ f ∈ L, Fld.fits f o) (ht : o.text.size ≤ 65536) : (L.flatMap fun f => Fld.lay f o).length ≤ L.length * 65546 := by
  induction L with
  | nil => simp
  | cons f L ih =>
    rw [List.flatMap_cons, List.length_append, List.length_cons]
    have := lay_length f o (h f (by simp)) ht
    have := ih (fun f hf => h f (by simp [hf]))
    omega
theorem putOp_length (l : List GOp) (o : GOp) (h : wrongOp l o = 0) (hl : l.length ≤ 1024) (hn : o.nums) : (putOp o).length ≤ 300000 := by
  obtain ⟨hk, h1, h2, _⟩ := wrong_zero h
  rw [putOp_eq o hk]
  have := layList_length (hasF o.kind) o (wrong_fits h hl hn) h2
  have := hasF_length o.kind
  have := putText_length o.key h1
  simp only [List.length_cons, List.length_append]
  omega
theorem takeOps_length (l : List GOp) (hl : l.length ≤ 1024) (h : ∀ j (hj : j < l.length), wrongOp (l.take j) l[j] = 0) (hn : ∀ o ∈ l, o.nums) : ∀ j, j ≤ l.length → ((l.take j).flatMap putOp).length ≤ j * 300000 := by
  intro j
  induction j with
  | zero => intro _; simp
  | succ j ih =>
    intro hj
    have h1 := ih (by omega)
    have h2 := putOp_length (l.take j) l[j] (h j (by omega)) (by simp; omega) (hn _ (List.getElem_mem _))
    rw [List.take_succ_eq_append_getElem (by omega), List.flatMap_append, List.length_append]
    simp only [List.flatMap_cons, List.flatMap_nil, List.append_nil]
    omega
theorem wpList_drop {P : Program} {ops : Array Oper} {a : Act} {w : World} {Q : Exit → Act → World → Prop} {l : List Oper} (h : wpList P ops Q l a w) : wpList P ops Q l a w := h
/-- the state while one operation is laid -/
def PS (w : World) (p : Nat) (F : List Nat) (q g : Nat) (v : Value) (l : List GOp) (o : GOp) (F' : List Nat) (ys : Bytes) (wr : World) : Prop :=
  OutB wr p F' ys ∧ OS wr g v l ∧ OpV wr q o ∧ Mod F w wr ∧ Fresh w F F' ∧ (0 < l.length → g ∉ F') ∧ q ∉ F'
section
variable {w wr w' : World} {p q g g1 : Nat} {F F' : List Nat} {v v1 : Value} {l : List GOp} {o : GOp} {ys zs : Bytes} {L : List Fld}
theorem PS.lay (h : PS w p F q g v l o F' ys wr) {e : Ending} (hp : OutP wr p F' zs e w') : e = .returned (.tuple #[]) ∧ ∃ F'', PS w p F q g v l o F'' zs w' ∧ Mod F' wr w' ∧ Fresh wr F' F'' := by
  obtain ⟨h1, h2, h3, h4, h5, h6, h7⟩ := h
  obtain ⟨he, F'', k1, k2, k3⟩ := hp
  exact ⟨he, F'', ⟨k1, h2.mod k2 h6, h3.mod k2 h7, h4.fresh h5 k2, h5.trans k3 h4.size, h2.not k3 h6, k3.not h7 h3.lt⟩, k2, k3⟩
theorem PS.mod (h : PS w p F q g v l o F' ys wr) (hm : Mod [] wr w') : PS w p F q g v l o F' ys w' := by
  obtain ⟨h1, h2, h3, h4, h5, h6, h7⟩ := h
  exact ⟨h1.mod hm (by simp), h2.mod hm (by simp), h3.mod hm (by simp), h4.trans (hm.mono (by simp)), h5, h6, h7⟩
end
def PutP (w : World) (p : Nat) (F : List Nat) (xs : Bytes) (l : List GOp) (e : Ending) (w' : World) : Prop :=
  e = .returned (.int .i64 (checkOps l).1) ∧ ∃ F', OutB w' p F' (if (checkOps l).1 = 0 then xs ++ putOps l else xs) ∧ Mod F w w' ∧ Fresh w F F'
theorem put_any (l : List GOp) (g : Nat) (v : Value) (p : Nat) (F : List Nat) (xs : Bytes) (w : World) (hO : OutB w p F xs) (hs : OS w g v l) (hg : 0 < l.length → g ∉ F) (hn : ∀ o ∈ l, o.nums) (hz : xs.length ≤ 160000000000000) :
    Calls Try.prog 43 #[ptr p, v] w (PutP w p F xs l) := by
  have hchk := check_any l g v w hs
  have HCH := Lib.hid hchk; clear hchk
  have HN := Lib.hid hn; clear hn
  have HG := Lib.hid hg; clear hg
  obtain ⟨A, cap, rfl, _, _⟩ := hs.val
  by_cases h0 : (checkOps l).1 = 0
  · obtain ⟨hl, hall⟩ := check_all h0
    have H0 := Lib.hid h0; clear h0
    have HALL := Lib.hid hall; clear hall
    go_enter Try.func43, Try.ntmps43
    go_wp2_with fail
    refine HCH.out.mono ?_
    rintro e' w1 ⟨rfl, hm1⟩
    have HS1 : Hid (OS w1 g _ l) := Lib.hid (hs.mod hm1 (by simp))
    have HO1 := Lib.hid (hO.mod hm1 (by simp))
    have HM1 := Lib.hid hm1
    rw [H0.out]
    clear hm1 hs hO HCH
    go_wp2_with fail
    refine (outNumber_any p F xs l.length w1 HO1.out (by omega) (by omega)).mono ?_
    rintro e' w2 ⟨rfl, F2, hO2, hm2, hf2⟩
    have HS2 : Hid (OS w2 g _ l) := Lib.hid (HS1.out.mod hm2 HG.out)
    have HG2 : Hid (0 < l.length → g ∉ F2) := Lib.hid (HS1.out.not hf2 HG.out)
    have HO2 := Lib.hid hO2
    have HM2 := Lib.hid ((HM1.out.mono (T := F) (by simp)).trans hm2)
    have HF2 : Hid (Fresh w F F2) := Lib.hid (fun b hb => (hf2 b hb).imp id (by have := HM1.out.size; omega))
    clear hO2 hm2 hf2 HS1 HO1 HM1
    have HTL := Lib.hid (takeOps_length l hl HALL.out HN.out)
    have HLB : Hid ((putNum l.length).length ≤ 10) := Lib.hid (putNum_length10 _ (by omega))
    go_wp2_with fail
    go_loopw [28] (fun s wr => ∃ (j : Nat) (F' : List Nat), s = .int .i64 (j : Int) ∧ j ≤ l.length ∧ Hid (OS wr g (.slice A l.length cap) l) ∧ Hid (OutB wr p F' (xs ++ putNum l.length ++ (l.take j).flatMap putOp)) ∧ Hid (Mod F w wr) ∧ Hid (Fresh w F F') ∧ Hid (0 < l.length → g ∉ F')) (fun s _ => l.length - (intOf s).toNat)
    case atStart => exact ⟨0, F2, rfl, by omega, HS2, Lib.hid (by simpa using HO2.out), HM2, HF2, HG2⟩
    case round =>
      obtain ⟨j, F', rfl, hj, HS, HO, HM, HF, HG'⟩ := hrel
      clear HS2 HO2 HM2 HF2 HG2
      by_cases hjl : j < l.length
      · obtain ⟨off, cap', hv', _, _, hgl, hit⟩ := HS.out.item (by omega)
        injection hv' with hA _ hcap
        subst hA
        subst hcap
        have HJ := Lib.hid (hit j hjl)
        have HLEN : Hid (((l.take j).flatMap putOp).length ≤ 307200000) := Lib.hid (by have := HTL.out j hj; omega)
        have HW := Lib.hid (HALL.out j hjl)
        have HTK : Hid (l.take (j + 1) = l.take j ++ [l[j]]) := Lib.hid (List.take_succ_eq_append_getElem hjl)
        have HON := Lib.hid (HN.out l[j] (List.getElem_mem _))
        have hqF : wr.heap.size ∉ F' := fun h => by have := HO.out.all _ h; omega
        have HQF := Lib.hid hqF
        clear hit hqF
        obtain ⟨o, ho⟩ : ∃ o, l[j] = o := ⟨_, rfl⟩
        rw [ho] at HJ HW HTK HON
        clear ho
        obtain ⟨hk, hks, hts, _, _⟩ := wrong_zero HW.out
        have HFIT := Lib.hid (wrong_fits HW.out (by simp; omega) HON.out)
        have HPE := Lib.hid (putOp_eq o hk)
        obtain ⟨kn, hkn, hkn9⟩ : ∃ kn : Nat, o.kind = (kn : Int) ∧ kn < 10 := ⟨o.kind.toNat, by unfold known at hk; have := of_decide_eq_true hk; omega, by unfold known at hk; have := of_decide_eq_true hk; omega⟩
        have HKN := Lib.hid hkn
        clear hk
        obtain ⟨B, hB⟩ : ∃ B, xs ++ putNum l.length ++ (l.take j).flatMap putOp = B := ⟨_, rfl⟩
        have HBE := Lib.hid hB
        rw [hB] at HO
        have HBL : Hid (B.length ≤ 160000400000000) := Lib.hid (by rw [← hB, List.length_append, List.length_append]; have := HLB.out; have := HLEN.out; omega)
        clear hB
        go_wp2_with (first | ((with_reducible refine wpList_load_op _ rfl ?hgd HJ.out ?hx ?_); (case hgd => exact rfl); (case hx => exact rfl)) | ((with_reducible refine wpList_store_op (o := o) _ _ rfl ?hgd ?hx ?hy (Blk.new _ _ _) ?hold ?_); (case hgd => exact rfl); (case hx => exact rfl); (case hy => exact rfl); (case hold => exact rfl); intro w3 hv3 hm3; have hm4 := ((Mod.refl [] wr).alloc _).then hm3 (by simp); obtain ⟨c0, c1, c2, c3, c36, _, _, _⟩ := hv3.open_; have HP3 : Hid (PS w p F wr.heap.size g _ l o F' B w3) := Lib.hid ⟨HO.out.mod hm4 (by simp), HS.out.mod hm4 (by simp), hv3, HM.out.trans (hm4.mono (by simp)), HF.out, HG'.out, HQF.out⟩; clear hv3 hm3 hm4))
        refine (outByte_any p F' B (UInt8.ofNat kn) kn (by simp; omega) w3 HP3.out.1 (by have := HBL.out; omega)).mono ?_
        rintro e' w4 hp4
        obtain ⟨rfl, F4, hP4, _, _⟩ := HP3.out.lay hp4
        have HP4 := Lib.hid hP4
        clear hp4 hP4 HP3 HS HO HM HF HG' HJ c0 c1 c2 c3 c36
        obtain ⟨c0, c1, c2, c3, c36, _, _, _⟩ := OpV.open_ HP4.out.2.2.1
        go_wp2_with fail
        refine (outText_any p F4 _ o.key w4 HP4.out.1 (by omega) (by have := HBL.out; simp only [List.length_append, List.length_cons, List.length_nil]; omega)).mono ?_
        rintro e' w5 hp5
        obtain ⟨rfl, F5, hP5, _, _⟩ := HP4.out.lay hp5
        have HP5 := Lib.hid hP5
        clear hp5 hP5 HP4 c0 c1 c2 c3 c36
        obtain ⟨c0, c1, c2, c3, c36, _, _, _⟩ := OpV.open_ HP5.out.2.2.1
        go_wp2_with fail
        have hfl := fields_any o.kind w5
        rw [HKN.out] at hfl
        refine hfl.mono ?_
        rintro e' w6 ⟨g1, g2, v1, v2, rfl, hf1, hf2, hm6, hg1, _⟩
        have HP6 := Lib.hid (HP5.out.mod hm6)
        have hgn : g1 ∉ F5 := fun h => by have := HP5.out.1.all _ h; omega
        have HGN : Hid (0 < (hasF (kn : Int)).length → g1 ∉ F5) := Lib.hid (fun _ => hgn)
        obtain ⟨A1, cap1, rfl, _, _⟩ := hf1.val
        have HF6 : Hid (FS w6 g1 _ (hasF (kn : Int))) := Lib.hid hf1
        have HK : Hid (hasF o.kind = hasF (kn : Int)) := Lib.hid (by rw [HKN.out])
        rw [HK.out] at HFIT HPE
        have hL3 := hasF_length (kn : Int)
        clear hf1 hf2 hm6 hg1 hgn HP5 c0 c1 c2 c3 c36 HK
        generalize hasF (kn : Int) = L at *
        generalize wr.heap.size = q at *
        go_wp2_with fail
        go_loopw [49] (fun s w7 => ∃ (i : Nat) (F7 : List Nat), s = .int .i64 (i : Int) ∧ i ≤ L.length ∧ Hid (PS w p F q g (.slice (some ⟨g, off, none⟩) l.length cap) l o F7 (B ++ [UInt8.ofNat kn] ++ putText o.key ++ (L.take i).flatMap fun f => Fld.lay f o) w7) ∧ Hid (FS w7 g1 (.slice A1 L.length cap1) L) ∧ Hid (0 < L.length → g1 ∉ F7)) (fun s _ => L.length - (intOf s).toNat)
        case atStart => exact ⟨0, F5, rfl, by omega, Lib.hid (by simpa using HP6.out), HF6, HGN⟩
        case round =>
          obtain ⟨i, F7, rfl, hi, HP7, HF7, HG7⟩ := hrel
          clear HP6 HF6 HGN
          by_cases hil : i < L.length
          · obtain ⟨off1, cap1', hv', _, _, _, hit⟩ := HF7.out.item (by omega)
            injection hv' with hA _ hcap
            subst hA
            subst hcap
            have HC0 := Lib.hid (hit i hil)
            obtain ⟨f, hf⟩ : ∃ f, L[i] = f := ⟨_, rfl⟩
            rw [hf] at HC0
            have HFF : Hid (Fld.fits f o) := Lib.hid (HFIT.out f (by rw [← hf]; exact List.getElem_mem hil))
            have HTKi : Hid (L.take (i + 1) = L.take i ++ [f]) := Lib.hid (by rw [List.take_succ_eq_append_getElem hil, hf])
            clear hit hf
            go_wp2_with (first | ((with_reducible refine wpList_load_fld _ rfl ?hgd HC0.out ?hx ?_); (case hgd => exact rfl); (case hx => exact rfl)) | ((with_reducible refine wpList_store_fld (f := f) _ _ rfl ?hgd ?hx ?hy (Blk.new _ _ _) ?hold ?_); (case hgd => exact rfl); (case hx => exact rfl); (case hy => exact rfl); (case hold => exact rfl); intro w8 hv8 hm8; have c8 := hv8.cell 1; rw [Fld.cells_eq] at c8; simp only [List.getElem?_toArray, List.getElem?_cons_zero, List.getElem?_cons_succ] at c8; have hm9 := (((Mod.refl [] wr).alloc _).then hm8 (by simp)); have HP8 := Lib.hid (HP7.out.mod hm9); have HO8 : Hid (OpAt w8 q 0 o) := Lib.hid (CellsAt.of_blk HP8.out.2.2.1); have HF8 : Hid (FS w8 g1 _ L) := Lib.hid (HF7.out.mod hm9 (by simp)); clear hv8 hm8 hm9) | ((with_reducible refine wpList_load_op _ rfl ?hgd HO8.out ?hx ?_); (case hgd => exact rfl); (case hx => exact rfl)))
            rw [fld_enter1, Oper.upon_enter]
            have hB8 := HP8.out.1
            have hlen : (B ++ [UInt8.ofNat kn] ++ putText o.key ++ (L.take i).flatMap fun f => Fld.lay f o).length ≤ 170000000000000 := by
              have h1 := layList_length (L.take i) o (fun f hf => HFIT.out f (List.mem_of_mem_take hf)) hts
              have h2 := putText_length o.key hks
              have h3 := HBL.out
              have h4 : (L.take i).length ≤ 3 := by simp; omega
              simp only [List.length_append, List.length_cons, List.length_nil] at h1 ⊢
              omega
            refine (fldLay_any f o p F7 _ w8 hB8 HFF.out hlen).mono ?_
            rintro e' w9 hp9
            obtain ⟨rfl, F9, hP9, hm9, hf9⟩ := HP8.out.lay hp9
            have HP9 := Lib.hid hP9
            have HF9 : Hid (FS w9 g1 _ L) := Lib.hid (HF8.out.mod hm9 HG7.out)
            have HG9 : Hid (0 < L.length → g1 ∉ F9) := Lib.hid (HF8.out.not hf9 HG7.out)
            clear hp9 hP9 hm9 hf9 HP8 HF8 HG7 HP7 HF7 hB8 hlen c8
            go_wp2
            go_roundw
            case rel => exact ⟨i + 1, F9, by go_num, by omega, Lib.hid (by rw [HTKi.out, List.flatMap_append, ← List.append_assoc]; simpa using HP9.out), HF9, HG9⟩
            case measure => simp [intOf]; omega
          · have hie : i = L.length := by omega
            subst hie
            go_wp2
            go_roundw
            case rel =>
              obtain ⟨k1, k2, k3, k4, k5, k6, k7⟩ := HP7.out
              have e : xs ++ putNum l.length ++ (l.take (j + 1)).flatMap putOp = B ++ [UInt8.ofNat kn] ++ putText o.key ++ (L.take L.length).flatMap fun f => Fld.lay f o := by
                rw [HTK.out, List.flatMap_append, ← List.append_assoc, HBE.out, List.take_length]
                simp [HPE.out, HKN.out]
                rw [Nat.mod_eq_of_lt (by omega)]
              exact ⟨j + 1, F7, by go_num, by omega, Lib.hid k2, Lib.hid (by rw [e]; exact k1), Lib.hid k4, Lib.hid k5, Lib.hid k6⟩
            case measure => simp [intOf]; omega
      · have hje : j = l.length := by omega
        subst hje
        go_wp2
        go_ret
        refine ⟨by rw [H0.out]; rfl, F', ?_, HM.out, HF.out⟩
        rw [if_pos H0.out]
        have := HO.out
        rw [List.take_length, List.append_assoc] at this
        exact this
  · have h0i : ¬ (((checkOps l).1 : Nat) : Int) = 0 := by omega
    go_enter Try.func43, Try.ntmps43
    go_wp2_with fail
    refine HCH.out.mono ?_
    rintro e' w1 ⟨rfl, hm1⟩
    have HO1 := Lib.hid (hO.mod hm1 (by simp))
    have HM1 := Lib.hid hm1
    clear hm1 hs hO HCH
    go_wp2
    go_ret
    refine ⟨rfl, F, ?_, HM1.out.mono (by simp), Fresh.refl _ _⟩
    rw [if_neg h0]
    exact HO1.out
end Go.Proofs.Ytlpjeckhejbkkaa
end

section
set_option linter.unusedVariables false
set_option linter.unusedSimpArgs false
set_option maxRecDepth 20000
set_option maxHeartbeats 400000
namespace Go.Proofs.Ytlpjeckhejbkkaa
open Go.RowKit

theorem OS.new (w : World) (l : List GOp) (hl : l.length ≤ 1000) : OS (w.alloc (.cells (l.flatMap GOp.cells).toArray 74)) w.heap.size (.slice (some ⟨w.heap.size, 0, none⟩) l.length l.length) l := by
  refine ⟨flat_length _ _ GOp.cells_length l, _, _, rfl, Nat.le_refl _, by unfold maxLen; omega, fun _ => ⟨0, rfl, by simp, fun i u hu => ?_⟩⟩
  rw [Nat.zero_add, (Blk.new w _ _).cell i]
  simpa using hu
def fa : GOp := ⟨1, ⟨#[107]⟩, ⟨#[118]⟩, 0, GIdent.zero⟩
def fb : GOp := ⟨10, ⟨#[]⟩, ⟨#[]⟩, 0, GIdent.zero⟩
def fc : GOp := ⟨6, ⟨#[107]⟩, ⟨#[]⟩, -1, GIdent.zero⟩
theorem chk_ab : checkOps [fa, fb] = (40, 1) := by decide +kernel
theorem chk_c : checkOps [fc] = (0, 0) := by decide +kernel
theorem put_c : putOps [fc] = [1, 6, 1, 107, 1] := by
  have h1 : putNum 1 = [1] := putNum_lt (by omega)
  have h2 : zig (-1) = 1 := by decide
  have h3 : putNum (ByteArray.size ⟨#[107]⟩) = [1] := h1
  simp [putOps, putOp, fc, hasText, hasAt, putText, h1, h2, h3]
end Go.Proofs.Ytlpjeckhejbkkaa
end

section
set_option linter.unusedVariables false
set_option linter.unusedSimpArgs false
set_option maxRecDepth 20000
set_option maxHeartbeats 800000
namespace Go.Proofs.Ytlpjeckhejbkkaa
open Go.RowKit

/-! ### a new variable of several cells, zero -/
theorem zero_run {P : Program} {ty : TypeId} {z : Value} (hi : (P.info? ty).map (·.zero) = some (some z)) (w : World) : (zeroValue ty).run P w = .ok z w := by
  rcases h : P.info? ty with _ | i
  · rw [h] at hi; cases hi
  · rw [h] at hi
    injection hi with hi
    simp [zeroValue, typeInfo, h, hi]
theorem wpList_alloc {P : Program} {ty : TypeId} {ops : Array Oper} {rest : List Oper} {op : Oper} {a : Act} {w : World} {Q : Exit → Act → World → Prop} {cs : List Value} (hz : ∀ w, (zeroValue ty).run P w = .ok (.agg cs.toArray) w) (ho : op.op = .alloc ty) (hgd : Region.wanted op (yielded ops a.tmps) = true)
    (h : ∀ q w1, Blk w1 q ty cs.toArray → Mod [] w w1 → w.heap.size ≤ q → q < w1.heap.size → wpList P ops Q rest (a.put op.dst (.pointer (some ⟨q, 0, none⟩))) w1) : wpList P ops Q (op :: rest) a w := by
  refine BigFrame.wpList_want hgd fun K hK => ?_
  have hr : (Instr.alloc ty true (.tuple #[])).run P w = .ok (.pointer (some ⟨w.heap.size, 0, none⟩)) (w.alloc (.cells cs.toArray ty)) := by
    simp [Instr.alloc, hz, newVar, newRow, Value.cells]
  unfold Oper.wp execOp
  simp only [ho, Sem.run_bind, hr, Result.andThen_ok, Sem.run_pure]
  exact hK _ _ (h _ _ (Blk.new w ty _) ((Mod.refl [] w).alloc _) (Nat.le_refl _) (by simp))
theorem zeroOp_run (w : World) : (zeroValue 74).run Try.prog w = .ok (.agg GOp.zero.cells.toArray) w := zero_run (by kernel_rfl) w
theorem wpList_alloc_op {ops : Array Oper} {rest : List Oper} {op : Oper} {a : Act} {w : World} {Q : Exit → Act → World → Prop} (ho : op.op = .alloc 74) (hgd : Region.wanted op (yielded ops a.tmps) = true)
    (h : ∀ q w1, OpV w1 q GOp.zero → Mod [] w w1 → w.heap.size ≤ q → q < w1.heap.size → wpList Try.prog ops Q rest (a.put op.dst (.pointer (some ⟨q, 0, none⟩))) w1) : wpList Try.prog ops Q (op :: rest) a w :=
  wpList_alloc zeroOp_run ho hgd h
theorem wpList_store_opV {ops : Array Oper} {rest : List Oper} {op : Oper} {a : Act} {w : World} {Q : Exit → Act → World → Prop} (x y : Operand) (ho : op.op = .store 74 x y) (hgd : Region.wanted op (yielded ops a.tmps) = true) {g : Nat} {o old : GOp} (hx : a.eval x = .pointer (some ⟨g, 0, none⟩)) (hy : a.eval y = o.val) (hb : OpV w g old)
    (h : ∀ w', OpV w' g o → Mod [g] w w' → wpList Try.prog ops Q rest (a.put op.dst undef) w') : wpList Try.prog ops Q (op :: rest) a w :=
  wpList_store_op x y ho hgd hx hy hb (by simp [GOp.cells_length]) h
theorem OpV.alloc {w : World} {q : Nat} {o : GOp} (h : OpV w q o) (x : Obj) : OpV (w.alloc x) q o := Blk.alloc h x
theorem OpV.set1 {w : World} {q : Nat} {o : GOp} (h : OpV w q o) (s : ByteArray) : OpV (w.setCell ⟨q, 1, none⟩ (.string s)) q { o with key := s } := Blk.set_ h 1 _
theorem rdRaw_ok {xs : Bytes} {pos n p2 : Nat} {b : Bytes} (h : rdRaw xs pos n = .ok b p2) : p2 = pos + n ∧ p2 ≤ xs.length ∧ b = (xs.drop pos).take n := by
  unfold rdRaw at h
  split at h
  · cases h
  · cases h
    exact ⟨rfl, by omega, rfl⟩
theorem rdText_ok {xs : Bytes} {pos p2 : Nat} {s : ByteArray} (h : rdText xs pos = .ok s p2) (hn : pos ≤ xs.length) : pos < p2 ∧ p2 ≤ xs.length ∧ s.size ≤ 65536 := by
  unfold rdText rdBytes at h
  rcases h1 : rdNum xs pos 65536 with ⟨n, p⟩ | ⟨w, a⟩
  · rw [h1] at h
    obtain ⟨h2, h3, h4, _⟩ := rdNum_ok h1 hn
    simp only [Rd.bind] at h
    rcases h5 : rdRaw xs p n with ⟨b, q⟩ | ⟨w, a⟩
    · rw [h5] at h
      obtain ⟨h6, h7, h8⟩ := rdRaw_ok h5
      injection h with h9 h10
      subst h9 h10
      refine ⟨by omega, h7, ?_⟩
      have : (ByteArray.size ⟨b.toArray⟩) = b.length := by simp [ByteArray.size]
      rw [this, h8]
      simp
      omega
    · rw [h5] at h; cases h
  · rw [h1] at h; cases h
theorem rdHash_ok {xs : Bytes} {pos p2 : Nat} {s : GHash} (h : rdHash xs pos = .ok s p2) : p2 = pos + 32 ∧ p2 ≤ xs.length := by
  unfold rdHash at h
  split at h
  · cases h; exact ⟨rfl, by omega⟩
  · cases h
theorem rdFld_ok {xs : Bytes} {f : Fld} {pos p2 : Nat} {o o' : GOp} (h : rdFld f xs pos o = .ok o' p2) (hn : pos ≤ xs.length) : pos < p2 ∧ p2 ≤ xs.length := by
  cases f
  · simp only [rdFld] at h
    rcases h1 : rdText xs pos with ⟨n, p⟩ | ⟨w, a⟩
    · rw [h1] at h
      cases h
      exact ⟨(rdText_ok h1 hn).1, (rdText_ok h1 hn).2.1⟩
    · rw [h1] at h; cases h
  · simp only [rdFld, rdSigned] at h
    rcases h1 : rdNum xs pos 18446744073709551615 with ⟨n, p⟩ | ⟨w, a⟩
    · rw [h1] at h
      cases h
      exact ⟨(rdNum_ok h1 hn).2.1, (rdNum_ok h1 hn).2.2.1⟩
    · rw [h1] at h; cases h
  · simp only [rdFld] at h
    rcases h1 : rdNum xs pos 1024 with ⟨n, p⟩ | ⟨w, a⟩
    · rw [h1] at h
      obtain ⟨_, h3, h4, _⟩ := rdNum_ok h1 hn
      simp only [Rd.bind] at h
      split at h
      · cases h; exact ⟨h3, h4⟩
      · rcases h5 : rdHash xs p with ⟨b, q⟩ | ⟨w, a⟩
        · rw [h5] at h
          cases h
          obtain ⟨h6, h7⟩ := rdHash_ok h5
          exact ⟨by omega, h7⟩
        · rw [h5] at h; cases h
    · rw [h1] at h; cases h
/-! ### reading, field by field -/
def foldFld (xs : Bytes) : List Fld → Nat → Nat → GOp → Rd (GOp × Nat)
  | [], pos, place, o => .ok (o, place) pos
  | f :: l, pos, _, o => (rdFld f xs pos o).bind fun o' p => foldFld xs l p pos o'
theorem rdFld_kind {xs : Bytes} {f : Fld} {pos p2 : Nat} {o o' : GOp} (h : rdFld f xs pos o = .ok o' p2) : o'.kind = o.kind := by
  cases f <;> simp only [rdFld] at h
  · cases h1 : rdText xs pos <;> rw [h1] at h <;> cases h; rfl
  · cases h1 : rdSigned xs pos <;> rw [h1] at h <;> cases h; rfl
  · cases h1 : rdNum xs pos 1024 with
    | bad w a => rw [h1] at h; cases h
    | ok n p =>
      rw [h1] at h
      simp only [Rd.bind] at h
      split at h
      · cases h; rfl
      · cases h5 : rdHash xs p <;> rw [h5] at h <;> cases h; rfl
theorem Rd.bind_assoc {α β γ : Type} (r : Rd α) (f : α → Nat → Rd β) (g : β → Nat → Rd γ) : (r.bind f).bind g = r.bind fun a p => (f a p).bind g := by cases r <;> rfl
def key0 (k : UInt8) (key : ByteArray) : GOp := ⟨k.toNat, key, ⟨#[]⟩, 0, GIdent.zero⟩
theorem rdOp_eq (xs : Bytes) (pos : Nat) (done : List GOp) : rdOp xs pos done = (rdByte xs pos).bind fun k p1 => if known k.toNat = false then .bad 40 pos else
    (rdText xs p1).bind fun key p2 => (foldFld xs (hasF k.toNat) p2 pos (key0 k key)).bind fun r p => if hasAt k.toNat && !atMay done r.1 then .bad 42 r.2 else .ok r.1 p := by
  unfold rdOp
  congr 1
  funext k p1
  split
  · rfl
  · rename_i hk
    congr 1
    funext key p2
    have hk : (1 : Int) ≤ (k.toNat : Int) ∧ (k.toNat : Int) ≤ 9 := by
      rcases h : known (k.toNat : Int)
      · exact absurd h hk
      · unfold known at h; exact of_decide_eq_true h
    unfold key0
    generalize (k.toNat : Int) = n at hk
    have h9 : n = 1 ∨ n = 2 ∨ n = 3 ∨ n = 4 ∨ n = 5 ∨ n = 6 ∨ n = 7 ∨ n = 8 ∨ n = 9 := by omega
    have hat : ∀ p4 (o : GOp), (rdAt xs p4).bind (fun a p5 => if atMay done { o with at_ := a } then Rd.ok ({ o with at_ := a } : GOp) p5 else .bad 42 p4) =
        (rdFld .at_ xs p4 { o with at_ := GIdent.zero }).bind fun r p => if atMay done r = false then .bad 42 p4 else .ok r p := by
      intro p4 o
      unfold rdAt rdFld
      simp only [Rd.bind_assoc]
      congr 1
      funext m p
      split
      · simp only [Rd.bind]
        split <;> simp_all
      · simp only [Rd.bind_assoc]
        congr 1
        funext h q
        simp only [Rd.bind]
        split <;> simp_all
    rcases h9 with rfl | rfl | rfl | rfl | rfl | rfl | rfl | rfl | rfl
    all_goals simp [hasText, hasAt, hasF, foldFld, Rd.bind]
    · simp only [rdFld]; cases rdText xs p2 <;> rfl
    · simp only [rdFld]; cases rdText xs p2 <;> rfl
    · simp only [rdFld]; cases rdText xs p2 <;> rfl
    · simp only [rdFld]; cases rdSigned xs p2 <;> rfl
    · simp only [rdFld]
      cases rdText xs p2 with
      | bad w a => rfl
      | ok a p =>
        have h := hat p ⟨8, key, a, 0, GIdent.zero⟩
        unfold Rd.bind at h
        simp only [rdFld] at h
        simp only [Rd.bind] at h ⊢
        rw [h]
        split <;> simp_all
    · have h := hat p2 ⟨9, key, ⟨#[]⟩, 0, GIdent.zero⟩
      simp only [rdFld, Rd.bind] at h ⊢
      rw [h]
      split <;> simp_all
end Go.Proofs.Ytlpjeckhejbkkaa
end

section
set_option linter.unusedVariables false
set_option linter.unusedSimpArgs false
set_option maxRecDepth 20000
set_option maxHeartbeats 800000
namespace Go.Proofs.Ytlpjeckhejbkkaa
open Go.RowKit

/-- the state while the fields of one operation are read -/
def RO (w : World) (p g : Nat) (xs : Bytes) (z q gl : Nat) (vl : Value) (l : List GOp) (g1 : Nat) (v1 : Value) (L : List Fld) (o : GOp) (pos : Nat) (wr : World) : Prop :=
  InB wr p g xs (pos : Int) .nilIface ∧ OpV wr q o ∧ OpV wr z GOp.zero ∧ OS wr gl vl l ∧ FS wr g1 v1 L ∧ Mod [p] w wr
theorem RO.mod {w : World} {p g : Nat} {xs : Bytes} {z q gl : Nat} {vl : Value} {l : List GOp} {g1 : Nat} {v1 : Value} {L : List Fld} {o : GOp} {pos : Nat} {wr w' : World} (h : RO w p g xs z q gl vl l g1 v1 L o pos wr) (hm : Mod [] wr w') : RO w p g xs z q gl vl l g1 v1 L o pos w' := by
  obtain ⟨h1, h2, h3, h4, h5, h6⟩ := h
  exact ⟨h1.mod hm (by simp) (by simp), h2.mod hm (by simp), h3.mod hm (by simp), h4.mod hm (by simp), h5.mod hm (by simp), h6.trans (hm.mono (by simp))⟩
/-- how the blocks lie -/
structure ROG (w : World) (p g : Nat) (xs : Bytes) (z q gl : Nat) (l : List GOp) (g1 : Nat) (L : List Fld) : Prop where
  pw : p < w.heap.size
  zw : w.heap.size ≤ z
  qw : w.heap.size ≤ q
  zq : z ≠ q
  gq : 0 < xs.length → g ≠ q
  lp : 0 < l.length → gl ≠ p
  lw : 0 < l.length → gl < w.heap.size
  g1w : 0 < L.length → w.heap.size ≤ g1
  g1q : 0 < L.length → g1 ≠ q
theorem RO.read {w : World} {p g : Nat} {xs : Bytes} {z q gl : Nat} {vl : Value} {l : List GOp} {g1 : Nat} {v1 : Value} {L : List Fld} {o o' : GOp} {pos pos' : Nat} {wr w' : World} (h : RO w p g xs z q gl vl l g1 v1 L o pos wr) (G : ROG w p g xs z q gl l g1 L)
    (h1 : InB w' p g xs (pos' : Int) .nilIface) (h2 : OpV w' q o') (hm : Mod [p, q] wr w') : RO w p g xs z q gl vl l g1 v1 L o' pos' w' := by
  obtain ⟨k1, k2, k3, k4, k5, k6⟩ := h
  have e1 := G.pw
  have e2 := G.zw
  have e3 := G.qw
  refine ⟨h1, h2, k3.mod hm (by have := G.zq; simp; omega), k4.mod hm (fun h0 => by have := G.lp h0; have := G.lw h0; simp; omega), k5.mod hm (fun h0 => by have := G.g1w h0; have := G.g1q h0; simp; omega), k6.then hm (by simp; omega)⟩
def OneP (w : World) (p g : Nat) (xs : Bytes) (r : Rd GOp) (e' : Ending) (w' : World) : Prop :=
  match r with
  | .ok o pos => e' = .returned (.tuple #[o.val, .nilIface]) ∧ InB w' p g xs pos .nilIface ∧ Mod [p] w w'
  | .bad why at_ => ∃ b, e' = .returned (.tuple #[GOp.zero.val, badV b]) ∧ BadAt w' b why at_ ∧ Mod [p] w w' ∧ w.heap.size ≤ b
theorem opOne_any (l : List GOp) (gl : Nat) (vl : Value) (p g : Nat) (xs : Bytes) (w : World) (n0 : Nat) (hI : InB w p g xs n0 .nilIface) (hn : n0 ≤ xs.length) (hz : xs.length ≤ 140737488355328) (hs : OS w gl vl l) (hlp : 0 < l.length → gl ≠ p) :
    Calls Try.prog 68 #[ptr p, vl] w (OneP w p g xs (rdOp xs n0 l)) := by
  obtain ⟨A, cap, rfl, _, _⟩ := hs.val
  have HS := Lib.hid hs; clear hs
  have HI := Lib.hid hI; clear hI
  have HN0 := Lib.hid hn; clear hn
  have HR : Hid (rdOp xs n0 l = _) := Lib.hid (rdOp_eq xs n0 l)
  have HZ := Lib.hid hz; clear hz
  have HI1 := Lib.hid HI.out
  have hpl := HI.out.lt
  have HGL : Hid (0 < l.length → gl < w.heap.size) := Lib.hid (fun h0 => by obtain ⟨_, _, _, _, _, hl', _⟩ := HS.out.at_ h0; exact hl')
  go_enter Try.func68, Try.ntmps68
  go_wp2_with (((with_reducible refine wpList_alloc_op rfl ?hgd ?_); (case hgd => exact rfl); intro z w0 hz0 hm0 hz1 hz2); have HZ0 := Lib.hid hz0; have HM0 := Lib.hid hm0; clear hz0 hm0)
  refine (at_any p g xs w0 n0 _ (HI.out.mod HM0.out (by simp) (by simp))).mono ?_
  rintro e' w1 ⟨rfl, rfl⟩
  go_wp2_with fail
  have hbyte := inByte_any p g xs w0 n0 (HI.out.mod HM0.out (by simp) (by simp)) HN0.out
  have HB := Lib.hid hbyte; clear hbyte
  have HBB : Hid (∀ k p1, rdByte xs n0 = .ok k p1 → p1 ≤ xs.length) := Lib.hid (fun k p1 h => by unfold rdByte at h; split at h <;> cases h; omega)
  generalize rdByte xs n0 = r1 at HB HR HBB
  refine HB.out.mono ?_
  cases r1 with
  | bad why at_ =>
    rintro e' w2 ⟨b, rfl, hb, _, hm2, hbl⟩
    have HB2 := Lib.hid hb
    have HM2 := Lib.hid hm2
    have HZ2 : Hid (OpV w2 z GOp.zero) := Lib.hid (HZ0.out.mod hm2 (by simp; omega))
    unfold badV
    clear hb hm2
    go_wp2_with (((with_reducible refine wpList_store_opV (o := GOp.zero) _ _ rfl ?hgd ?hx ?hy HZ2.out ?_); (case hgd => exact rfl); (case hx => exact rfl); (case hy => exact rfl)); intro w3 hv3 hm3)
    refine bodyPost_ret (results_row_tmp rtOp rfl rfl hv3 (by simp [GOp.cells_length])) rfl ?_
    rw [HR.out]
    have hbz : b ≠ z := by have := hz2; omega
    have := HM0.out.size
    exact ⟨b, rfl, Blk.mod HB2.out hm3 (by simpa using hbz), ((HM0.out.mono (by simp)).trans HM2.out).then hm3 (by simp; omega), by omega⟩
  | ok k p1 =>
    rintro e' w2 ⟨rfl, hI2, hm2⟩
    have HI2 := Lib.hid hI2
    have HM2 : Hid (Mod [p] w w2) := Lib.hid ((HM0.out.mono (by simp)).trans hm2)
    have HZ2 : Hid (OpV w2 z GOp.zero) := Lib.hid (HZ0.out.mod hm2 (by simp; omega))
    have HS2 : Hid (OS w2 gl _ l) := Lib.hid (HS.out.mod HM2.out (by simpa using hlp))
    have hp1 := HBB.out k p1 rfl
    clear hI2 hm2 HB HBB HI HS HM0 HZ0
    have hk8 : ((k.toNat : Int)) ≤ 255 := by have := k.toNat_lt; omega
    by_cases hkn : known (k.toNat : Int) = true
    · go_wp2_with (first | (((with_reducible refine wpList_alloc_op rfl ?hgd ?_); (case hgd => exact rfl); intro q w3 hq3 hm3 hq1 hq2); have HQ3 := Lib.hid hq3; have HM3 := Lib.hid hm3; clear hq3 hm3) | (((with_reducible refine wpList_store_opV (o := key0 k ⟨#[]⟩) _ _ rfl ?hgd ?hx ?hy HQ3.out ?_); (case hgd => exact rfl); (case hx => exact rfl); (case hy => exact rfl)); intro w4 hv4 hm4; have HV4 := Lib.hid hv4; have HM4 := Lib.hid (HM3.out.then (T := [q]) hm4 (by simp; omega)); clear hv4 hm4; obtain ⟨c0, c1, c2, c3, c36, _, _, _⟩ := HV4.out.open_; dsimp only [key0] at c0 c1 c2 c3 c36; have f1 := HV4.out.frozen 1) | (go_at_call 74; refine (known_any _ _).mono ?_; rintro e' w5 ⟨rfl, rfl⟩))
      have hpq : q ≠ p := by have := HM2.out.size; omega
      have HI4 : Hid (InB w4 p g xs (p1 : Int) .nilIface) := Lib.hid (HI2.out.mod HM4.out (by simp) (by simp))
      have HZ4 : Hid (OpV w4 z GOp.zero) := Lib.hid (HZ2.out.mod HM4.out (by simp))
      have HS4 : Hid (OS w4 gl _ l) := Lib.hid (HS2.out.mod HM4.out (by simp))
      have HM5 : Hid (Mod [p] w w4) := Lib.hid (HM2.out.trans (HM4.out.mono (by simp)))
      have htext := inText_any p g xs w4 p1 HI4.out hp1 HZ.out
      have HT := Lib.hid htext; clear htext
      have HTP : Hid (∀ s p2, rdText xs p1 = .ok s p2 → p2 ≤ xs.length) := Lib.hid (fun s p2 h => (rdText_ok h hp1).2.1)
      have hqz : z < q := by have := HZ2.out.lt; omega
      have hgq : 0 < xs.length → g ≠ q := fun h0 => by
        obtain ⟨v, _, hr, _⟩ := HI2.out
        obtain ⟨_, _, _, _, _, hlt', _⟩ := hr.at_ h0
        omega
      have HGQ := Lib.hid hgq; clear hgq
      have HPW : Hid (w.heap.size ≤ z) := Lib.hid hz1
      have HQW : Hid (w.heap.size ≤ q) := Lib.hid (by have := HM2.out.size; omega)
      clear HM3 HM2 HM4 HZ2 HS2 HI2 HQ3 hq1 hq2 hz1 hz2
      have HR1 : Hid (rdOp xs n0 l = (rdText xs p1).bind fun key p2 => (foldFld xs (hasF k.toNat) p2 n0 (key0 k key)).bind fun r p => if hasAt k.toNat && !atMay l r.1 then .bad 42 r.2 else .ok r.1 p) := Lib.hid (by rw [HR.out]; simp [Rd.bind, hkn])
      clear HR
      generalize rdText xs p1 = r2 at HT HR1 HTP
      refine HT.out.mono ?_
      cases r2 with
      | bad why at_ =>
        rintro e' w6 ⟨b, rfl, hb, _, hm6, hbl⟩
        have HB6 := Lib.hid hb
        have HM6 : Hid (Mod [p] w w6) := Lib.hid (HM5.out.trans hm6)
        have HV6 : Hid (OpV w6 q _) := Lib.hid (HV4.out.mod hm6 (by simpa using hpq))
        have hzp : z ≠ p := by have := HPW.out; omega
        have HZ6 : Hid (OpV w6 z GOp.zero) := Lib.hid (HZ4.out.mod hm6 (by simpa using hzp))
        clear c0 c1 c2 c3 c36 f1 hb hm6
        obtain ⟨c0, c1, c2, c3, c36, _, _, _⟩ := HV6.out.open_
        dsimp only [key0] at c0 c1 c2 c3 c36
        have f1 := HV6.out.frozen 1
        unfold badV
        have hms : Mod [q] w6 (w6.setCell ⟨q, 1, none⟩ (.string ⟨#[]⟩)) := (Mod.refl [q] w6).setCell _ (by simp) _
        have HMS := Lib.hid hms; clear hms
        have HZ7 : Hid (OpV (w6.setCell ⟨q, 1, none⟩ (.string ⟨#[]⟩)) z GOp.zero) := Lib.hid (HZ6.out.mod HMS.out (by simpa using Nat.ne_of_lt hqz))
        go_wp2_with (((with_reducible refine wpList_store_opV (o := GOp.zero) _ _ rfl ?hgd ?hx ?hy HZ7.out ?_); (case hgd => exact rfl); (case hx => exact rfl); (case hy => exact rfl)); intro w7 hv7 hm7)
        refine bodyPost_ret (results_row_tmp rtOp rfl rfl hv7 (by simp [GOp.cells_length])) rfl ?_
        rw [HR1.out]
        have h1 := HV4.out.lt
        have h2 := HZ4.out.lt
        have hbq : b ≠ q := by omega
        have hbz : b ≠ z := by omega
        have h3 := HM5.out.size
        have h4 := HQW.out
        have h5 := HPW.out
        exact ⟨b, rfl, Blk.mod (Blk.mod HB6.out HMS.out (by simpa using hbq)) hm7 (by simpa using hbz), (HM6.out.then HMS.out (by simp; omega)).then hm7 (by simp; omega), by omega⟩
      | ok key p2 =>
        rintro e' w6 ⟨rfl, hI6, hm6⟩
        have hp2 := HTP.out key p2 rfl
        have HV6 : Hid (OpV w6 q _) := Lib.hid (HV4.out.mod hm6 (by simpa using hpq))
        have hzp : z ≠ p := by have := HPW.out; omega
        have HZ6 : Hid (OpV w6 z GOp.zero) := Lib.hid (HZ4.out.mod hm6 (by simpa using hzp))
        have HS6 : Hid (OS w6 gl _ l) := Lib.hid (HS4.out.mod hm6 (by simpa using hlp))
        have HI6 := Lib.hid hI6
        have HM6 : Hid (Mod [p] w w6) := Lib.hid (HM5.out.trans hm6)
        clear c0 c1 c2 c3 c36 f1 hI6 hm6 HV4 HZ4 HS4 HM5 HI4 HT HTP
        obtain ⟨c0, c1, c2, c3, c36, _, _, _⟩ := HV6.out.open_
        dsimp only [key0] at c0 c1 c2 c3 c36
        have f1 := HV6.out.frozen 1
        have hms : Mod [q] w6 (w6.setCell ⟨q, 1, none⟩ (.string key)) := (Mod.refl [q] w6).setCell _ (by simp) _
        have HV7 : Hid (OpV (w6.setCell ⟨q, 1, none⟩ (.string key)) q (key0 k key)) := Lib.hid (HV6.out.set1 key)
        have HMS := Lib.hid hms; clear hms
        have HZ7 : Hid (OpV (w6.setCell ⟨q, 1, none⟩ (.string key)) z GOp.zero) := Lib.hid (HZ6.out.mod HMS.out (by simpa using Nat.ne_of_lt hqz))
        have HI7 : Hid (InB (w6.setCell ⟨q, 1, none⟩ (.string key)) p g xs p2 .nilIface) := Lib.hid (HI6.out.mod HMS.out (by simpa using hpq.symm) (by simpa using HGQ.out))
        have HS7 : Hid (OS (w6.setCell ⟨q, 1, none⟩ (.string key)) gl (.slice A l.length cap) l) := Lib.hid (HS6.out.mod HMS.out (fun h0 => by have := HGL.out h0; have := HQW.out; simp; omega))
        have HM7 : Hid (Mod [p] w (w6.setCell ⟨q, 1, none⟩ (.string key))) := Lib.hid (HM6.out.then HMS.out (by have := HQW.out; simp; omega))
        clear HMS HV6 HZ6 HS6 HI6 HM6
        obtain ⟨w7, hw7⟩ : ∃ w7, w6.setCell ⟨q, 1, none⟩ (.string key) = w7 := ⟨_, rfl⟩
        rw [hw7] at HV7 HZ7 HI7 HS7 HM7
        obtain ⟨d0, d1, d2, d3, d36, _, _, _⟩ := HV7.out.open_
        dsimp only [key0] at d0 d1 d2 d3 d36
        go_wp2_with fail
        clear hw7 c0 c1 c2 c3 c36 f1 d0 d1 d2 d3 d36
        refine (fields_any _ _).mono ?_
        rintro e' w8 ⟨g1, g2, v1, v2, rfl, hf1, hf2, hm8, hg1, hg2⟩
        obtain ⟨A1, cap1, rfl, _, _⟩ := hf1.val
        have hgq1 : g1 ≠ q := by have := HV7.out.lt; omega
        have hg1w : w.heap.size ≤ g1 := by have := HM7.out.size; omega
        obtain ⟨L, hL⟩ : ∃ L, hasF (k.toNat : Int) = L := ⟨_, rfl⟩
        have HHL := Lib.hid hL
        rw [hL] at hf1 HR1
        have hL3 : L.length ≤ 3 := by rw [← hL]; exact hasF_length _
        rw [hL]
        have HG : Hid (ROG w p g xs z q gl l g1 L) := Lib.hid ⟨hpl, HPW.out, HQW.out, Nat.ne_of_lt hqz, HGQ.out, hlp, HGL.out, fun _ => hg1w, fun _ => hgq1⟩
        have HO8 : Hid (RO w p g xs z q gl (.slice A l.length cap) l g1 (.slice A1 L.length cap1) L (key0 k key) p2 w8) := Lib.hid ⟨HI7.out.mod hm8 (by simp) (by simp), HV7.out.mod hm8 (by simp), HZ7.out.mod hm8 (by simp), HS7.out.mod hm8 (by simp), hf1, HM7.out.trans (hm8.mono (by simp))⟩
        clear HV7 HZ7 HI7 HS7 HM7 hf1 hf2 hm8 hL hg1 hg2 hgq1 hg1w HPW HQW HGQ HGL hqz hzp hpq hlp hpl
        obtain ⟨R, hR⟩ : ∃ R, foldFld xs L p2 n0 (key0 k key) = R := ⟨_, rfl⟩
        have HR2 : Hid (rdOp xs n0 l = R.bind fun r p => if hasAt k.toNat && !atMay l r.1 then .bad 42 r.2 else .ok r.1 p) := Lib.hid (by rw [HR1.out, ← hR]; rfl)
        have HRR := Lib.hid hR
        clear hR HR1
        have HKK : Hid ((key0 k key).kind = (k.toNat : Int)) := Lib.hid rfl
        generalize key0 k key = o0 at *
        go_wp2_with fail
        go_loopw [55, 6] (fun s55 s6 wr => ∃ (i pos place : Nat) (o : GOp), s55 = .int .i64 (i : Int) ∧ s6 = .int .i64 (place : Int) ∧ i ≤ L.length ∧ Hid (RO w p g xs z q gl (.slice A l.length cap) l g1 (.slice A1 L.length cap1) L o pos wr) ∧ pos ≤ xs.length ∧ Hid (foldFld xs (L.drop i) pos place o = R) ∧ Hid (o.kind = (k.toNat : Int))) (fun s55 _ _ => L.length - (intOf s55).toNat)
        case atStart => exact ⟨0, p2, n0, o0, rfl, rfl, by omega, HO8, hp2, by simpa using HRR, HKK⟩
        case round =>
          obtain ⟨i, pos, place, o, rfl, rfl, hi, HO, hpos, HF, HK⟩ := hrel
          clear HO8 HRR HKK
          by_cases hil : i < L.length
          · obtain ⟨off1, cap1', hv', _, _, _, hit⟩ := HO.out.2.2.2.2.1.item (by omega)
            injection hv' with hA _ hcap
            subst hA
            subst hcap
            have HC0 := Lib.hid (hit i hil)
            obtain ⟨f, hf⟩ : ∃ f, L[i] = f := ⟨_, rfl⟩
            rw [hf] at HC0
            have HDR : Hid (L.drop i = f :: L.drop (i + 1)) := Lib.hid (by rw [List.drop_eq_getElem_cons hil, hf])
            clear hit hf
            go_wp2_with (first | ((with_reducible refine wpList_load_fld _ rfl ?hgd HC0.out ?hx ?_); (case hgd => exact rfl); (case hx => exact rfl)) | ((with_reducible refine wpList_store_fld (f := f) _ _ rfl ?hgd ?hx ?hy (Blk.new _ _ _) ?hold ?_); (case hgd => exact rfl); (case hx => exact rfl); (case hy => exact rfl); (case hold => exact rfl); intro w9 hv9 hm9; have c9 := hv9.cell 2; rw [Fld.cells_eq] at c9; simp only [List.getElem?_toArray, List.getElem?_cons_zero, List.getElem?_cons_succ] at c9; have hm10 := (((Mod.refl [] wr).alloc _).then hm9 (by simp)); have HO9 := Lib.hid (HO.out.mod hm10); clear hv9 hm9 hm10) | (go_at_call 48; refine (at_any p g xs _ _ _ HO9.out.1).mono ?_; rintro e' w10 ⟨rfl, rfl⟩))
            rw [fld_enter2, Oper.upon_enter]
            have hread := fldRead_any f o p g q xs w9 pos HO9.out.1 hpos HZ.out HO9.out.2.1 (by have := HG.out.pw; have := HG.out.qw; omega) HG.out.gq
            have hF := HF.out
            rw [HDR.out] at hF
            have hrok := fun o' p' h => rdFld_ok (xs := xs) (f := f) (pos := pos) (p2 := p') (o := o) (o' := o') h hpos
            have hrk := fun o' p' h => rdFld_kind (xs := xs) (f := f) (pos := pos) (p2 := p') (o := o) (o' := o') h
            unfold foldFld at hF
            generalize rdFld f xs pos o = r3 at hread hF hrok hrk
            refine hread.mono ?_
            clear hread
            cases r3 with
            | bad why at_ =>
              rintro e' w11 ⟨b, rfl, hb, _, hm11, hbl⟩
              have HR3 : Hid (rdOp xs n0 l = .bad why at_) := Lib.hid (by rw [HR2.out, ← hF]; rfl)
              have HB11 := Lib.hid hb
              have HM11 := Lib.hid hm11
              have e1 := HG.out.zq
              have e2 := HG.out.pw
              have e3 := HG.out.zw
              have e4 := HG.out.qw
              have HZ11 : Hid (OpV w11 z GOp.zero) := Lib.hid (HO9.out.2.2.1.mod hm11 (by simp; omega))
              have hbz : b ≠ z := by have := HO9.out.2.2.1.lt; omega
              have hb0 : w.heap.size ≤ b := by have := HO9.out.2.2.2.2.2.size; omega
              clear hF hrok hrk hb hm11 c9
              unfold badV
              go_wp2_with (((with_reducible refine wpList_store_opV (o := GOp.zero) _ _ rfl ?hgd ?hx ?hy HZ11.out ?_); (case hgd => exact rfl); (case hx => exact rfl); (case hy => exact rfl)); intro w12 hv12 hm12)
              refine bodyPost_ret (results_row_tmp rtOp rfl rfl hv12 (by simp [GOp.cells_length])) rfl ?_
              rw [HR3.out]
              exact ⟨b, rfl, Blk.mod HB11.out hm12 (by simpa using hbz), (HO9.out.2.2.2.2.2.then HM11.out (by simp; omega)).then hm12 (by simp; omega), hb0⟩
            | ok o' p' =>
              rintro e' w11 ⟨rfl, hI11, hv11, hm11⟩
              have HO11 := Lib.hid (HO9.out.read HG.out hI11 hv11 hm11)
              have hp' := (hrok o' p' rfl).2
              have HK' : Hid (o'.kind = (k.toNat : Int)) := Lib.hid ((hrk o' p' rfl).trans HK.out)
              have HF' : Hid (foldFld xs (L.drop (i + 1)) p' pos o' = R) := Lib.hid hF
              clear hF hrok hrk hI11 hv11 hm11 c9 HO9 HO
              go_wp2
              go_roundw
              case rel => exact ⟨i + 1, p', pos, o', by go_num, rfl, by omega, HO11, hp', HF', HK'⟩
              case measure => simp [intOf]; omega
          · have hie : i = L.length := by omega
            subst hie
            have HF' : Hid (R = .ok (o, place) pos) := Lib.hid (by have := HF.out; rw [List.drop_length] at this; exact this.symm)
            have HR3 : Hid (rdOp xs n0 l = if hasAt k.toNat && !atMay l o then .bad 42 place else .ok o pos) := Lib.hid (by rw [HR2.out, HF'.out]; rfl)
            clear HF HR2 HF'
            obtain ⟨c0, c1, c2, c3, c36, HQ0, _, _⟩ := OpV.open_ HO.out.2.1
            rw [HK.out] at c0
            have HAT : Hid ((cellOf (k.toNat : Int) == 4) = hasAt (k.toNat : Int)) := Lib.hid (cell_at _)
            have e1 := HG.out.zq
            have e2 := HG.out.pw
            have e3 := HG.out.zw
            have e4 := HG.out.qw
            have hq5 := HO.out.2.1.lt
            have HZ0 : Hid (OpV wr z GOp.zero) := Lib.hid HO.out.2.2.1
            by_cases hA : hasAt (k.toNat : Int) = true
            · have hc4 : (cellOf (k.toNat : Int) == 4) = true := HAT.out.trans hA
              by_cases hM : atMay l o = true
              · have HR4 : Hid (rdOp xs n0 l = .ok o pos) := Lib.hid (by rw [HR3.out, hM]; simp)
                clear hA HAT
                go_wp2_with (first | (go_at_call 75; refine (cell_any _ _).mono ?_; rintro e' w12 ⟨rfl, rfl⟩) | ((with_reducible refine wpList_load_op _ rfl ?hgd HQ0.out ?hx ?_); (case hgd => exact rfl); (case hx => exact rfl)) | (go_at_call 76; refine (right_any l o gl _ _ HO.out.2.2.2.1).mono ?_; rintro e' w12 ⟨rfl, hm12⟩; have HO12 := Lib.hid (HO.out.mod hm12); have HZ12 : Hid (OpV w12 z GOp.zero) := Lib.hid HO12.out.2.2.1; have HQ12 : Hid (OpAt w12 q 0 o) := Lib.hid (CellsAt.of_blk HO12.out.2.1); clear hm12) | ((with_reducible refine wpList_load_op _ rfl ?hgd HQ12.out ?hx ?_); (case hgd => exact rfl); (case hx => exact rfl)) | (((with_reducible refine wpList_store_opV (o := o) _ _ rfl ?hgd ?hx ?hy HZ12.out ?_); (case hgd => exact rfl); (case hx => exact rfl); (case hy => exact rfl)); intro w13 hv13 hm13))
                refine bodyPost_ret (results_row_tmp rtOp rfl rfl hv13 (by simp [GOp.cells_length])) rfl ?_
                rw [HR4.out]
                exact ⟨rfl, HO12.out.1.mod hm13 (by simp; omega) (fun h0 => by obtain ⟨v, _, hr, _⟩ := HI1.out; obtain ⟨_, _, _, _, _, hl', _⟩ := hr.at_ h0; simp; omega), HO12.out.2.2.2.2.2.then hm13 (by simp; omega)⟩
              · have hMf : atMay l o = false := by simpa using hM
                have HR4 : Hid (rdOp xs n0 l = .bad 42 place) := Lib.hid (by rw [HR3.out, hA, hMf]; rfl)
                clear hA HAT hM
                go_wp2_with (first | (go_at_call 75; refine (cell_any _ _).mono ?_; rintro e' w12 ⟨rfl, rfl⟩) | ((with_reducible refine wpList_load_op _ rfl ?hgd HQ0.out ?hx ?_); (case hgd => exact rfl); (case hx => exact rfl)) | (go_at_call 76; refine (right_any l o gl _ _ HO.out.2.2.2.1).mono ?_; rintro e' w12 ⟨rfl, hm12⟩; have HO12 := Lib.hid (HO.out.mod hm12); have HZ12 : Hid (OpV w12 z GOp.zero) := Lib.hid HO12.out.2.2.1; clear hm12) | (((with_reducible refine wpList_store_opV (o := GOp.zero) _ _ rfl ?hgd ?hx ?hy (OpV.alloc HZ12.out _) ?_); (case hgd => exact rfl); (case hx => exact rfl); (case hy => exact rfl)); intro w13 hv13 hm13))
                refine bodyPost_ret (results_row_tmp rtOp rfl rfl hv13 (by simp [GOp.cells_length])) rfl ?_
                rw [HR4.out]
                have e5 := HO12.out.2.2.1.lt
                have hbz : w12.heap.size ≠ z := by omega
                exact ⟨w12.heap.size, rfl, Blk.mod (Blk.new w12 62 _) hm13 (by simpa using hbz), (HO12.out.2.2.2.2.2.alloc _).then hm13 (by simp; omega), by omega⟩
            · have hAf : hasAt (k.toNat : Int) = false := by simpa using hA
              have hc4 : (cellOf (k.toNat : Int) == 4) = false := HAT.out.trans hAf
              have HR4 : Hid (rdOp xs n0 l = .ok o pos) := Lib.hid (by rw [HR3.out, hAf]; rfl)
              clear hA HAT
              go_wp2_with (first | (go_at_call 75; refine (cell_any _ _).mono ?_; rintro e' w12 ⟨rfl, rfl⟩) | ((with_reducible refine wpList_load_op _ rfl ?hgd HQ0.out ?hx ?_); (case hgd => exact rfl); (case hx => exact rfl)) | (((with_reducible refine wpList_store_opV (o := o) _ _ rfl ?hgd ?hx ?hy HZ0.out ?_); (case hgd => exact rfl); (case hx => exact rfl); (case hy => exact rfl)); intro w13 hv13 hm13))
              refine bodyPost_ret (results_row_tmp rtOp rfl rfl hv13 (by simp [GOp.cells_length])) rfl ?_
              rw [HR4.out]
              exact ⟨rfl, HO.out.1.mod hm13 (by simp; omega) (fun h0 => by obtain ⟨v, _, hr, _⟩ := HI1.out; obtain ⟨_, _, _, _, _, hl', _⟩ := hr.at_ h0; simp; omega), HO.out.2.2.2.2.2.then hm13 (by simp; omega)⟩
    · have hkf : known (k.toNat : Int) = false := by simpa using hkn
      have HR1 : Hid (rdOp xs n0 l = .bad 40 n0) := Lib.hid (by rw [HR.out]; simp [Rd.bind, hkf])
      clear hkn HR
      go_wp2_with (first | (((with_reducible refine wpList_alloc_op rfl ?hgd ?_); (case hgd => exact rfl); intro q w3 hq3 hm3 hq1 hq2); have HQ3 := Lib.hid hq3; have HM3 := Lib.hid hm3; clear hq3 hm3) | (((with_reducible refine wpList_store_opV (o := key0 k ⟨#[]⟩) _ _ rfl ?hgd ?hx ?hy HQ3.out ?_); (case hgd => exact rfl); (case hx => exact rfl); (case hy => exact rfl)); intro w4 hv4 hm4; have HV4 := Lib.hid hv4; have HM4 := Lib.hid (HM3.out.then (T := [q]) hm4 (by simp; omega)); clear hv4 hm4; obtain ⟨c0, c1, c2, c3, c36, _, _, _⟩ := HV4.out.open_; dsimp only [key0] at c0 c1 c2 c3 c36; have HZ4 : Hid (OpV w4 z GOp.zero) := Lib.hid (HZ2.out.mod HM4.out (by simp))) | (go_at_call 74; refine (known_any _ _).mono ?_; rintro e' w5 ⟨rfl, rfl⟩) | (((with_reducible refine wpList_store_opV (o := GOp.zero) _ _ rfl ?hgd ?hx ?hy (OpV.alloc HZ4.out _) ?_); (case hgd => exact rfl); (case hx => exact rfl); (case hy => exact rfl)); intro w5 hv5 hm5))
      refine bodyPost_ret (results_row_tmp rtOp rfl rfl hv5 (by simp [GOp.cells_length])) rfl ?_
      rw [HR1.out]
      have h1 := HZ4.out.lt
      have h2 := HM4.out.size
      have h3 := HM2.out.size
      have hbz : w4.heap.size ≠ z := by omega
      exact ⟨w4.heap.size, rfl, Blk.mod (Blk.new w4 62 _) hm5 (by simpa using hbz), ((HM2.out.trans (HM4.out.mono (by simp))).alloc _).then hm5 (by simp; omega), by omega⟩
end Go.Proofs.Ytlpjeckhejbkkaa
end

section
set_option linter.unusedVariables false
set_option linter.unusedSimpArgs false
set_option maxRecDepth 20000
set_option maxHeartbeats 800000
namespace Go.Proofs.Ytlpjeckhejbkkaa
open Go.RowKit

def OwnO (w : World) (v : Value) (l : List GOp) : Prop := w.ownsRow 0 74 37 v l.length (l.flatMap GOp.cells)
theorem OwnO.nil (w : World) : OwnO w (.slice none 0 0) [] := own_nil w _ _
theorem OwnO.mod {w w' : World} {v : Value} {l : List GOp} {S : List Nat} (h : OwnO w v l) (hm : Mod S w w') (hd : ∀ b ∈ blks v, b ∉ S) : OwnO w' v l := own_mod h hm hd
theorem OwnO.lt {w : World} {v : Value} {l : List GOp} (h : OwnO w v l) : ∀ b ∈ blks v, b < w.heap.size := own_lt h
theorem OwnO.val {w : World} {v : Value} {l : List GOp} (h : OwnO w v l) : ∃ A cap, v = .slice A l.length cap ∧ l.length ≤ cap ∧ cap ≤ maxLen := own_slice h
theorem OwnO.os {w : World} {v : Value} {l : List GOp} (h : OwnO w v l) : ∃ g, OS w g v l ∧ (0 < l.length → g ∈ blks v) := by
  obtain ⟨g, h1, h2⟩ := RS.of_own h
  exact ⟨g, h1, fun h0 => by simp [blks, h2 h0]⟩
theorem ops_one (l : List GOp) : ∀ u ∈ l.flatMap GOp.cells, u.oneCell' = true := by
  intro u hu
  obtain ⟨o, _, ho⟩ := List.mem_flatMap.1 hu
  exact o.one u ho
theorem wpList_append_ops {ops : Array Oper} {rest : List Oper} {o : Oper} {a : Act} {Q : Exit → Act → World → Prop} {w : World} (hgd : Region.wanted o (yielded ops a.tmps) = true) (s x : Operand)
    (ho : o.op = .call { callee := .builtin .append, args := #[s, x], argTypes := #[24, 24] })
    {v : Value} {xs : List GOp} (hown : OwnO w v xs) (hs : a.eval s = v) {g : Nat} {sv : Value} {ys : List GOp} (hr : OS w g sv ys) (hx : a.eval x = sv)
    (h : ∀ A' n' cap' w', OwnO w' (.slice A' n' cap') (xs ++ ys) → Hid (n' = xs.length + ys.length) → Mod (blks v) w w' → Hid (∀ b ∈ blks (.slice A' n' cap'), b ∈ blks v ∨ b = w.heap.size) → wpList Try.prog ops Q rest (a.put o.dst (.slice A' n' cap')) w') (hz : xs.length + ys.length ≤ 2000000000000) :
    wpList Try.prog ops Q (o :: rest) a w := by
  refine wpList_append_rs etOps hgd s x ho hown hs hr hx (ops_one ys) (by unfold maxLen; omega) (by omega) fun A' cap' w' h1 h2 h3 => h A' _ cap' w' ?_ (Lib.hid rfl) h2 (Lib.hid h3)
  unfold OwnO
  rw [List.length_append, List.flatMap_append]
  exact h1
theorem wpList_buildSlice_op {ops : Array Oper} {rest : List Oper} {op : Oper} {a : Act} {w : World} {Q : Exit → Act → World → Prop} (x : Operand) (ho : op.op = .buildSlice 24 1 #[(0, x)]) (hgd : Region.wanted op (yielded ops a.tmps) = true) {o : GOp} (hx : a.eval x = o.val)
    (h : ∀ g w1, OS w1 g (.slice (some ⟨g, 0, none⟩) 1 1) [o] → Mod [] w w1 → w.heap.size ≤ g → g < w1.heap.size → wpList Try.prog ops Q rest (a.put op.dst (.slice (some ⟨g, 0, none⟩) 1 1)) w1) : wpList Try.prog ops Q (op :: rest) a w :=
  wpList_buildSlice1 etOps (by omega) x ho hgd (v := o.val) (cs := o.cells) rfl o.cells_length hx fun g w1 h1 _ h2 h3 h4 => h g w1 (by simpa [OS] using h1) h2 h3 h4
def GetP (w : World) (p g : Nat) (xs : Bytes) (r : Rd (List GOp)) (e' : Ending) (w' : World) : Prop :=
  match r with
  | .ok l pos => ∃ A n cap, e' = .returned (.tuple #[.slice A n cap, .nilIface]) ∧ OwnO w' (.slice A n cap) l ∧ InB w' p g xs pos .nilIface ∧ Mod [p] w w' ∧ (∀ b ∈ blks (.slice A n cap), w.heap.size ≤ b)
  | .bad why at_ => ∃ b, e' = .returned (.tuple #[.slice none 0 0, badV b]) ∧ BadAt w' b why at_ ∧ Mod [p] w w' ∧ w.heap.size ≤ b
theorem foldFld_ok {xs : Bytes} (L : List Fld) : ∀ (pos place : Nat) (o : GOp) (r : GOp × Nat) (p2 : Nat), foldFld xs L pos place o = .ok r p2 → pos ≤ xs.length → pos ≤ p2 ∧ p2 ≤ xs.length := by
  induction L with
  | nil => intro pos place o r p2 h hn; unfold foldFld at h; cases h; exact ⟨by omega, hn⟩
  | cons f L ih =>
    intro pos place o r p2 h hn
    unfold foldFld at h
    rcases h1 : rdFld f xs pos o with ⟨o', p'⟩ | ⟨w, a⟩
    · rw [h1] at h
      obtain ⟨h2, h3⟩ := rdFld_ok h1 hn
      obtain ⟨h4, h5⟩ := ih _ _ _ _ _ h h3
      exact ⟨by omega, h5⟩
    · rw [h1] at h; cases h
theorem rdOp_ok {xs : Bytes} {pos p2 : Nat} {done : List GOp} {o : GOp} (h : rdOp xs pos done = .ok o p2) (hn : pos ≤ xs.length) : pos < p2 ∧ p2 ≤ xs.length := by
  rw [rdOp_eq] at h
  unfold rdByte at h
  split at h
  · rename_i hlt
    simp only [Rd.bind] at h
    split at h
    · cases h
    · rcases h1 : rdText xs (pos + 1) with ⟨s, p1⟩ | ⟨w, a⟩
      · rw [h1] at h
        obtain ⟨h2, h3, _⟩ := rdText_ok h1 (by omega)
        simp only at h
        rcases h4 : foldFld xs (hasF xs[pos].toNat) p1 pos (key0 xs[pos] s) with ⟨r, p3⟩ | ⟨w, a⟩
        · rw [h4] at h
          obtain ⟨h5, h6⟩ := foldFld_ok _ _ _ _ _ _ h4 h3
          simp only at h
          split at h
          · cases h
          · cases h
            exact ⟨by omega, h6⟩
        · rw [h4] at h; cases h
      · rw [h1] at h; cases h
  · cases h
theorem opGet_any (p g : Nat) (xs : Bytes) (w : World) (n0 : Nat) (hI : InB w p g xs n0 .nilIface) (hn : n0 ≤ xs.length) (hz : xs.length ≤ 140737488355328) :
    Calls Try.prog 51 #[ptr p] w (GetP w p g xs (rdOps xs n0)) := by
  have hpl := hI.lt
  have hgl : 0 < xs.length → g < w.heap.size := fun h0 => by
    obtain ⟨v, _, hr, _⟩ := hI
    obtain ⟨_, _, _, _, _, hlt', _⟩ := hr.at_ h0
    exact hlt'
  have HGL := Lib.hid hgl; clear hgl
  have hnum : Calls Try.prog 65 #[ptr p, .int .u64 1024] w _ := inNumber_any 1024 p g xs w n0 hI hn (by omega)
  have HN := Lib.hid hnum; clear hnum
  have HOK := Lib.hid (fun x pos (h : rdNum xs n0 1024 = .ok x pos) => rdNum_ok h hn)
  have HR : Hid (rdOps xs n0 = (rdNum xs n0 1024).bind fun n p => rdList xs n p []) := Lib.hid rfl
  have HZ := Lib.hid hz; clear hz
  generalize rdNum xs n0 1024 = r at HN HOK HR
  go_enter Try.func51, Try.ntmps51
  go_wp2_with fail
  refine HN.out.mono ?_
  cases r with
  | bad why at_ =>
    rintro e' w1 ⟨b, rfl, hb, hI1, hm, hbl⟩
    have HB := Lib.hid hb
    have HM := Lib.hid hm
    clear hb hm hI1
    unfold badV
    go_wp2
    go_ret2
    rw [HR.out]
    exact ⟨b, rfl, HB.out, HM.out, hbl⟩
  | ok n p1 =>
    rintro e' w1 ⟨rfl, hI1, hm⟩
    obtain ⟨hn1, hp0, hp1, _⟩ := HOK.out _ _ rfl
    have HI1 := Lib.hid hI1
    have HM1 := Lib.hid hm
    obtain ⟨R, hR⟩ : ∃ R, rdList xs n p1 [] = R := ⟨_, rfl⟩
    have HRR := Lib.hid hR
    have HR2 : Hid (rdOps xs n0 = R) := Lib.hid (by rw [HR.out, ← hR]; rfl)
    clear hI1 hm HOK HN hR HR
    go_wp2_with fail
    go_loopw [18, 6] (fun s18 s6 wr => ∃ (i pos : Nat) (done : List GOp) (A : Option Addr) (cap : Nat), s18 = .int .u64 (i : Int) ∧ s6 = .slice A done.length cap ∧ i ≤ n ∧ Hid (done.length = i) ∧ Hid (OwnO wr (.slice A done.length cap) done) ∧ Hid (InB wr p g xs (pos : Int) .nilIface) ∧ pos ≤ xs.length ∧ Hid (Mod [p] w wr) ∧ Hid (∀ b ∈ blks (.slice A done.length cap), w.heap.size ≤ b) ∧ Hid (rdList xs (n - i) pos done = R)) (fun s _ _ => n - (intOf s).toNat)
    case atStart => exact ⟨0, p1, [], none, 0, rfl, rfl, by omega, Lib.hid rfl, Lib.hid (OwnO.nil _), HI1, hp1, HM1, Lib.hid (by simp [blks, Value.ownBlock]), HRR⟩
    case round =>
      obtain ⟨i, pos, done, A, cap, rfl, rfl, hi, HDL, HO, HI, hpos, HM, HF, HL⟩ := hrel
      clear HI1 HM1 HRR
      by_cases hil : i < n
      · obtain ⟨gd, hod, hgd'⟩ := HO.out.os
        have hone := opOne_any done gd _ p g xs wr pos HI.out hpos HZ.out hod (fun h0 hp => by have := HF.out gd (hgd' h0); omega)
        have HONE := Lib.hid hone
        have hL := HL.out
        rw [show n - i = (n - i - 1) + 1 by omega] at hL
        unfold rdList at hL
        have HOK := Lib.hid (fun o p2 (h : rdOp xs pos done = .ok o p2) => rdOp_ok h hpos)
        clear hone hod hgd' HL
        generalize rdOp xs pos done = r3 at HONE hL HOK
        have HL := Lib.hid hL
        clear hL
        go_wp2_with fail
        refine HONE.out.mono ?_
        cases r3 with
        | bad why at_ =>
          rintro e' w2 ⟨b, rfl, hb, hm2, hbl⟩
          have HR3 : Hid (rdOps xs n0 = .bad why at_) := Lib.hid (by rw [HR2.out, ← HL.out]; rfl)
          have HB := Lib.hid hb
          have HM2 := Lib.hid (HM.out.trans hm2)
          have hb0 : w.heap.size ≤ b := by have := HM.out.size; omega
          clear hb hm2 hbl
          unfold badV
          go_wp2_with (first | ((with_reducible refine wpList_alloc_op rfl ?hgd ?_); (case hgd => exact rfl); intro q w3 hq3 hm3 hq1 hq2; have HQ3 := Lib.hid hq3; have HM3 := Lib.hid hm3; clear hq3 hm3) | ((with_reducible refine wpList_store_opV (o := GOp.zero) _ _ rfl ?hgd ?hx ?hy HQ3.out ?_); (case hgd => exact rfl); (case hx => exact rfl); (case hy => exact rfl); intro w4 hv4 hm4; have HM4 : Hid (Mod [] w2 w4) := Lib.hid (HM3.out.then hm4 (by simp; omega)); clear hv4 hm4))
          go_ret2
          rw [HR3.out]
          exact ⟨b, rfl, Blk.mod HB.out HM4.out (by simp), HM2.out.trans (HM4.out.mono (by simp)), hb0⟩
        | ok o p2 =>
          rintro e' w2 ⟨rfl, hI2, hm2⟩
          have hp2 := (HOK.out o p2 rfl).2
          have HL2 : Hid (rdList xs (n - (i + 1)) p2 (done ++ [o]) = R) := Lib.hid (by rw [show n - (i + 1) = n - i - 1 by omega]; exact HL.out)
          have HI2 := Lib.hid hI2
          have HM2 := Lib.hid (HM.out.trans hm2)
          have HO2 : Hid (OwnO w2 (.slice A done.length cap) done) := Lib.hid (HO.out.mod hm2 (fun b hb => by have := HF.out b hb; simp; omega))
          have hil2 : i < 1024 := by omega
          have HI8 : Hid (done.length ≤ 1024) := Lib.hid (by have := HDL.out; omega)
          clear hI2 hm2 HOK HONE HL HO HI HM
          go_wp2_with (first | ((with_reducible refine wpList_alloc_op rfl ?hgd ?_); (case hgd => exact rfl); intro q w3 hq3 hm3 hq1 hq2; have HQ3 := Lib.hid hq3; have HM3 := Lib.hid hm3; clear hq3 hm3) | ((with_reducible refine wpList_store_opV (o := o) _ _ rfl ?hgd ?hx ?hy HQ3.out ?_); (case hgd => exact rfl); (case hx => exact rfl); (case hy => exact rfl); intro w4 hv4 hm4; have HQ4 : Hid (OpAt w4 q 0 o) := Lib.hid (CellsAt.of_blk hv4); have HM4 : Hid (Mod [] w2 w4) := Lib.hid (HM3.out.then hm4 (by simp; omega)); clear hv4 hm4) | ((with_reducible refine wpList_load_op _ rfl ?hgd HQ4.out ?hx ?_); (case hgd => exact rfl); (case hx => exact rfl)) | ((with_reducible refine wpList_buildSlice_op (o := o) _ rfl ?hgd ?hx ?_); (case hgd => exact rfl); (case hx => exact rfl); intro g5 w5 hs5 hm5 hg5 hg6; have HS5 := Lib.hid hs5; have HM5 : Hid (Mod [] w2 w5) := Lib.hid (HM4.out.trans hm5); have HO5 := Lib.hid (HO2.out.mod HM5.out (by simp)); clear hs5 hm5) | (at_builtin; refine wpList_append_ops rfl _ _ rfl HO5.out rfl HS5.out rfl ?_ ?hz; intro A6 n6 cap6 w6 ho6 HN6 hm6 HF6; have HO6 := Lib.hid ho6; have HM6 := Lib.hid hm6; clear ho6 hm6))
          case hz => have := HI8.out; simp; omega
          obtain ⟨A7, cap7, he7, _, _⟩ := HO6.out.val
          injection he7 with hA hn hc
          subst hA hn hc
          go_roundw
          case rel =>
            have hm6 : Mod [p] w w6 := (HM2.out.trans (HM5.out.mono (by simp))).then HM6.out (fun b hb => .inr (HF.out b hb))
            refine ⟨i + 1, p2, done ++ [o], _, _, by go_num, rfl, by omega, Lib.hid (by have := HDL.out; simp; omega), HO6, Lib.hid ((HI2.out.mod HM5.out (by simp) (by simp)).mod HM6.out (fun hb => by have := HF.out _ hb; omega) (fun h0 hb => by have := HF.out _ hb; have := HGL.out h0; omega)), hp2, Lib.hid hm6, Lib.hid (fun b hb => ?_), HL2⟩
            rcases HF6.out b hb with h | h
            · exact HF.out b h
            · have := HM2.out.size; have := HM5.out.size; omega
          case measure => simp [intOf]; omega
      · have hie : i = n := by omega
        subst hie
        have HR3 : Hid (rdOps xs n0 = .ok done pos) := Lib.hid (by rw [HR2.out, ← HL.out, Nat.sub_self]; rfl)
        clear HL HR2
        go_wp2
        go_ret2
        rw [HR3.out]
        exact ⟨A, _, cap, rfl, HO.out, HI.out, HM.out, HF.out⟩
def errV (why at_ : Int) : Value := .agg #[.int .i64 why, .int .i64 at_]
theorem rtErr : RowT Try.prog 36 2 := ⟨_, Try.underlying36, rfl, by kernel_rfl⟩
end Go.Proofs.Ytlpjeckhejbkkaa
end

section
set_option linter.unusedVariables false
set_option linter.unusedSimpArgs false
set_option maxRecDepth 20000
set_option maxHeartbeats 400000
namespace Go.Proofs.Ytlpjeckhejbkkaa
open Go.RowKit

/-! ### parts of a slice of bytes -/
theorem BS.part {w : World} {g L cap lo n c' : Nat} {A A' : Option Addr} {xs : Bytes} (h : BS w g (.slice A L cap) xs) (hlo : lo + n ≤ xs.length) (hn : n ≤ c') (hc : c' ≤ maxLen) (hA : 0 < n → A' = A.map (·.add lo)) : BS w g (.slice A' n c') ((xs.drop lo).take n) := by
  obtain ⟨A1, cap1, hv, _, _⟩ := h.val
  injection hv with h1 h2 h3
  subst h1 h2 h3
  have := RS.cut1 h hlo hn hc hA
  unfold BS
  have e : ((xs.drop lo).take n).length = n := by simp; omega
  rw [e, List.map_take, List.map_drop]
  exact this
theorem BS.take {w : World} {g L cap n : Nat} {A : Option Addr} {xs : Bytes} (h : BS w g (.slice A L cap) xs) (hn : n ≤ xs.length) : BS w g (.slice A n cap) (xs.take n) := by
  obtain ⟨A1, cap1, hv, h4, h5⟩ := h.val
  injection hv with h1 h2 h3
  subst h1 h2 h3
  have := BS.part (lo := 0) (n := n) (c' := cap) (A' := A) h (by omega) (by omega) h5 (by intro _; cases A <;> simp [Addr.add])
  simpa using this
/-! ### the plain law: what is read is what would be laid -/
def cut (xs : Bytes) (a b : Nat) : Bytes := (xs.drop a).take (b - a)
theorem cut_cat {xs : Bytes} {a b c : Nat} (h1 : a ≤ b) (h2 : b ≤ c) : cut xs a b ++ cut xs b c = cut xs a c := by
  unfold cut
  have e : xs.drop b = (xs.drop a).drop (b - a) := by rw [List.drop_drop]; congr 1; omega
  rw [e]
  have := List.take_add (l := xs.drop a) (i := b - a) (j := c - b)
  rw [show b - a + (c - b) = c - a by omega] at this
  exact this.symm
theorem cut_self (xs : Bytes) (a : Nat) : cut xs a a = [] := by simp [cut]
theorem numAt_ok (bs : Bytes) : ∀ (i acc x k : Nat), numAt i acc bs = (x, k, 0) → ∃ y, x = acc + y * 128 ^ i ∧ i < k ∧ bs.take (k - i) = putNum y ∧ (0 < i → y ≠ 0) := by
  induction bs with
  | nil => intro i acc x k h; unfold numAt at h; split at h <;> simp at h
  | cons c r ih =>
    intro i acc x k h
    have hc := c.toNat_lt
    unfold numAt at h
    split at h
    · simp at h
    · split at h
      · simp at h
      · split at h
        · rename_i hlt
          split at h
          · simp at h
          · rename_i h0
            simp only [Prod.mk.injEq, and_true] at h
            obtain ⟨rfl, rfl⟩ := h
            refine ⟨c.toNat, rfl, by omega, ?_, fun hi hc0 => h0 ⟨hc0, hi⟩⟩
            rw [show i + 1 - i = 1 by omega, putNum_lt hlt]
            simp
        · rename_i hge
          obtain ⟨y, hx, hk, ht, hy⟩ := ih _ _ _ _ h
          have hy0 := hy (by omega)
          refine ⟨c.toNat % 128 + 128 * y, ?_, by omega, ?_, fun _ => by omega⟩
          · rw [hx, Nat.pow_succ, Nat.add_mul, Nat.mul_assoc 128 y, Nat.mul_comm (128 ^ i) 128, ← Nat.mul_assoc y, Nat.mul_comm y 128]
            have : 128 * y * 128 ^ i = 128 * (y * 128 ^ i) := Nat.mul_assoc _ _ _
            omega
          · rw [show k - i = (k - (i + 1)) + 1 by omega, List.take_succ_cons, ht, putNum_ge (x := c.toNat % 128 + 128 * y) (by omega)]
            have e1 : (c.toNat % 128 + 128 * y) % 128 + 128 = c.toNat := by omega
            have e2 : (c.toNat % 128 + 128 * y) / 128 = y := by omega
            rw [e1, e2]
            simp
theorem rdNum_cut {xs : Bytes} {pos most x p : Nat} (h : rdNum xs pos most = .ok x p) : cut xs pos p = putNum x ∧ pos < p := by
  unfold rdNum at h
  rcases h1 : numAt 0 0 (xs.drop pos) with ⟨y, k, e⟩
  rw [h1] at h
  simp only at h
  split at h
  · rename_i he
    subst he
    split at h
    · cases h
    · cases h
      obtain ⟨z, hz, hk, ht, _⟩ := numAt_ok _ _ _ _ _ h1
      simp only [Nat.zero_add, Nat.pow_zero, Nat.mul_one, Nat.sub_zero] at hz ht
      subst hz
      unfold cut
      exact ⟨by rw [show pos + k - pos = k by omega]; exact ht, by omega⟩
  · cases h
theorem zig_zag (n : Nat) : zig (zag n) = n := by
  unfold zig zag
  by_cases h : n % 2 = 0
  · rw [if_pos h, if_pos (by omega)]; omega
  · rw [if_neg h, if_neg (by omega)]; omega
theorem rdRaw_cut {xs : Bytes} {pos n p : Nat} {b : Bytes} (h : rdRaw xs pos n = .ok b p) : cut xs pos p = b ∧ pos ≤ p ∧ b.length = n := by
  obtain ⟨h1, h2, h3⟩ := rdRaw_ok h
  subst h1 h3
  unfold cut
  exact ⟨by rw [show pos + n - pos = n by omega], by omega, by simp; omega⟩
theorem rdText_cut {xs : Bytes} {pos p : Nat} {s : ByteArray} (h : rdText xs pos = .ok s p) : cut xs pos p = putText s ∧ pos ≤ p := by
  unfold rdText rdBytes at h
  rcases h1 : rdNum xs pos 65536 with ⟨n, p1⟩ | ⟨w, a⟩
  · rw [h1] at h
    simp only [Rd.bind] at h
    obtain ⟨h2, h3⟩ := rdNum_cut h1
    rcases h5 : rdRaw xs p1 n with ⟨b, q⟩ | ⟨w, a⟩
    · rw [h5] at h
      obtain ⟨h6, h7, h8⟩ := rdRaw_cut h5
      injection h with h9 h10
      subst h9 h10
      refine ⟨?_, by omega⟩
      rw [← cut_cat (Nat.le_of_lt h3) h7, h2, h6]
      unfold putText
      have : (ByteArray.size ⟨b.toArray⟩) = b.length := by simp [ByteArray.size]
      rw [this, h8]
    · rw [h5] at h; cases h
  · rw [h1] at h; cases h
theorem rdHash_cut {xs : Bytes} {pos p : Nat} {s : GHash} (h : rdHash xs pos = .ok s p) : cut xs pos p = s.l ∧ pos ≤ p := by
  unfold rdHash at h
  split at h
  · cases h
    exact ⟨by unfold cut; rw [show pos + 32 - pos = 32 by omega], by omega⟩
  · cases h
/-- what a field has read -/
theorem rdSigned_cut {xs : Bytes} {pos p : Nat} {n : Int} (h : rdSigned xs pos = .ok n p) (hn : pos ≤ xs.length) : cut xs pos p = putNum (zig n) ∧ pos ≤ p ∧ -9223372036854775808 ≤ n ∧ n ≤ 9223372036854775807 := by
  unfold rdSigned at h
  rcases h1 : rdNum xs pos 18446744073709551615 with ⟨k, p1⟩ | ⟨w, a⟩
  · rw [h1] at h
    cases h
    obtain ⟨h2, h3⟩ := rdNum_cut h1
    obtain ⟨h4, _⟩ := rdNum_ok h1 hn
    refine ⟨by rw [zig_zag]; exact h2, by omega, ?_, ?_⟩ <;> (unfold zag; split <;> omega)
  · rw [h1] at h; cases h
theorem rdAt_cut {xs : Bytes} {pos p : Nat} {a : GIdent} (h : rdAt xs pos = .ok a p) : cut xs pos p = putAt a ∧ pos ≤ p := by
  unfold rdAt at h
  rcases h1 : rdNum xs pos 1024 with ⟨k, p1⟩ | ⟨w, a⟩
  · rw [h1] at h
    simp only [Rd.bind] at h
    obtain ⟨h2, h3⟩ := rdNum_cut h1
    split at h
    · rename_i hk
      subst hk
      cases h
      exact ⟨by rw [h2]; simp [putAt, GIdent.zero], by omega⟩
    · rename_i hk
      rcases h4 : rdHash xs p1 with ⟨b, q⟩ | ⟨w, a⟩
      · rw [h4] at h
        cases h
        obtain ⟨h5, h6⟩ := rdHash_cut h4
        refine ⟨?_, by omega⟩
        rw [← cut_cat (Nat.le_of_lt h3) h6, h2, h5]
        simp [putAt, hk]
      · rw [h4] at h; cases h
  · rw [h1] at h; cases h
theorem rdByte_cut {xs : Bytes} {pos p : Nat} {k : UInt8} (h : rdByte xs pos = .ok k p) : cut xs pos p = [k] ∧ pos < p ∧ p ≤ xs.length := by
  unfold rdByte at h
  split at h
  · rename_i hlt
    cases h
    refine ⟨?_, by omega, by omega⟩
    unfold cut
    rw [show pos + 1 - pos = 1 by omega, List.drop_eq_getElem_cons hlt]
    rfl
  · cases h
theorem rdOp_cut {xs : Bytes} {pos p : Nat} {done : List GOp} {o : GOp} (h : rdOp xs pos done = .ok o p) (hn : pos ≤ xs.length) (hd : done.length ≤ 1024) : cut xs pos p = putOp o ∧ pos ≤ p ∧ wrongOp done o = 0 ∧ o.nums := by
  unfold rdOp at h
  rcases h1 : rdByte xs pos with ⟨k, p1⟩ | ⟨w, a⟩
  · rw [h1] at h
    obtain ⟨c1, l1, m1⟩ := rdByte_cut h1
    simp only [Rd.bind] at h
    split at h
    · cases h
    · rename_i hk
      have hk : known (k.toNat : Int) = true := by simpa using hk
      have hk8 := k.toNat_lt
      have hkr : (1 : Int) ≤ (k.toNat : Int) ∧ (k.toNat : Int) ≤ 9 := by unfold known at hk; exact of_decide_eq_true hk
      rcases h2 : rdText xs p1 with ⟨key, p2⟩ | ⟨w, a⟩
      · rw [h2] at h
        obtain ⟨c2, l2⟩ := rdText_cut h2
        obtain ⟨_, m2, s2⟩ := rdText_ok h2 m1
        simp only at h
        have text : ∀ (r : Rd ByteArray), (if hasText (k.toNat : Int) then rdText xs p2 else .ok ⟨#[]⟩ p2) = r → ∀ t p3, r = .ok t p3 → cut xs p2 p3 = (if hasText (k.toNat : Int) then putText t else []) ∧ p2 ≤ p3 ∧ p3 ≤ xs.length ∧ t.size ≤ 65536 ∧ (hasText (k.toNat : Int) = false → t.size = 0) := by
          intro r hr t p3 ht
          subst ht
          split at hr
          · rename_i hT
            obtain ⟨c3, l3⟩ := rdText_cut hr
            obtain ⟨_, m3, s3⟩ := rdText_ok hr m2
            exact ⟨by rw [if_pos hT]; exact c3, l3, m3, s3, fun hf => by rw [hf] at hT; cases hT⟩
          · rename_i hT
            cases hr
            exact ⟨by rw [if_neg hT]; exact cut_self _ _, by omega, m2, by decide, fun _ => rfl⟩
        rcases h3 : (if hasText (k.toNat : Int) then rdText xs p2 else .ok ⟨#[]⟩ p2 : Rd ByteArray) with ⟨t, p3⟩ | ⟨w, a⟩
        · rw [h3] at h
          obtain ⟨c3, l3, m3, s3, z3⟩ := text _ h3 t p3 rfl
          simp only at h
          have numb : ∀ (r : Rd Int), (if (k.toNat : Int) = 6 then rdSigned xs p3 else .ok 0 p3) = r → ∀ n p4, r = .ok n p4 → cut xs p3 p4 = (if (k.toNat : Int) = 6 then putNum (zig n) else []) ∧ p3 ≤ p4 ∧ (-9223372036854775808 ≤ n ∧ n ≤ 9223372036854775807) ∧ ((k.toNat : Int) ≠ 6 → n = 0) := by
            intro r hr n p4 ht
            subst ht
            split at hr
            · rename_i hT
              obtain ⟨c4, l4, b4, b5⟩ := rdSigned_cut hr m3
              exact ⟨by rw [if_pos hT]; exact c4, l4, ⟨b4, b5⟩, fun hf => absurd hT hf⟩
            · rename_i hT
              cases hr
              exact ⟨by rw [if_neg hT]; exact cut_self _ _, by omega, by omega, fun _ => rfl⟩
          rcases h4 : (if (k.toNat : Int) = 6 then rdSigned xs p3 else .ok 0 p3 : Rd Int) with ⟨n, p4⟩ | ⟨w, a⟩
          · rw [h4] at h
            obtain ⟨c4, l4, b4, z4⟩ := numb _ h4 n p4 rfl
            simp only at h
            have hkk : UInt8.ofNat (((k.toNat : Int)).toNat % 256) = k := by simp
            split at h
            · rename_i hA
              rcases h5 : rdAt xs p4 with ⟨a, p5⟩ | ⟨w, a⟩
              · rw [h5] at h
                obtain ⟨c5, l5⟩ := rdAt_cut h5
                simp only at h
                split at h
                · rename_i hM
                  cases h
                  refine ⟨?_, by omega, ?_, b4⟩
                  · rw [← cut_cat (Nat.le_of_lt l1) (by omega), ← cut_cat l2 (by omega), ← cut_cat l3 (by omega), ← cut_cat l4 l5, c1, c2, c3, c4, c5]
                    unfold putOp
                    simp only [hkk, hA, if_true]
                    simp
                  · refine wrong0 (by simp [hk]) (show ¬ (65536 < key.size ∨ 65536 < t.size) by omega) ?_ (by simp [hM])
                    unfold bad41
                    rintro (⟨q1, q2⟩ | ⟨q1, q2⟩ | ⟨q1, q2⟩)
                    · exact q2 (z3 q1)
                    · exact q2 (z4 q1)
                    · exact absurd (q1.symm.trans hA) (by simp)
                · cases h
              · rw [h5] at h; cases h
            · rename_i hA
              have hA : hasAt (k.toNat : Int) = false := by simpa using hA
              cases h
              refine ⟨?_, by omega, ?_, b4⟩
              · rw [← cut_cat (Nat.le_of_lt l1) (by omega), ← cut_cat l2 (by omega), ← cut_cat l3 l4, c1, c2, c3, c4]
                unfold putOp
                simp only [hkk, hA]
                simp
              · refine wrong0 (by simp [hk]) (show ¬ (65536 < key.size ∨ 65536 < t.size) by omega) ?_ (by simp [hA])
                unfold bad41
                rintro (⟨q1, q2⟩ | ⟨q1, q2⟩ | ⟨q1, q2⟩)
                · exact q2 (z3 q1)
                · exact q2 (z4 q1)
                · exact q2 rfl
          · rw [h4] at h; cases h
        · rw [h3] at h; cases h
      · rw [h2] at h; cases h
  · rw [h1] at h; cases h
theorem rdList_cut {xs : Bytes} (k : Nat) : ∀ (pos p : Nat) (done l : List GOp), rdList xs k pos done = .ok l p → pos ≤ xs.length → done.length + k ≤ 1024 → ∃ new : List GOp, l = done ++ new ∧ new.length = k ∧ cut xs pos p = new.flatMap putOp ∧ pos ≤ p ∧ p ≤ xs.length ∧ checkFrom done new = (0, 0) ∧ ∀ o ∈ new, o.nums := by
  induction k with
  | zero =>
    intro pos p done l h hn hd
    unfold rdList at h
    cases h
    exact ⟨[], by simp, rfl, by simp [cut_self], by omega, hn, rfl, by simp⟩
  | succ k ih =>
    intro pos p done l h hn hd
    unfold rdList at h
    rcases h1 : rdOp xs pos done with ⟨o, p1⟩ | ⟨w, a⟩
    · rw [h1] at h
      obtain ⟨c1, l1, w1, n1⟩ := rdOp_cut h1 hn (by omega)
      obtain ⟨_, m1⟩ := rdOp_ok h1 hn
      obtain ⟨new, e1, e2, e3, e4, e5, e6, e7⟩ := ih p1 p (done ++ [o]) l h m1 (by simp; omega)
      refine ⟨o :: new, by rw [e1]; simp, by simp [e2], ?_, by omega, e5, ?_, ?_⟩
      · rw [← cut_cat l1 e4, c1, e3]
        simp
      · unfold checkFrom
        rw [if_pos w1]
        exact e6
      · intro o' ho'
        rcases List.mem_cons.1 ho' with rfl | h
        · exact n1
        · exact e7 _ h
    · rw [h1] at h; cases h
theorem rdOps_cut {xs : Bytes} {pos p : Nat} {l : List GOp} (h : rdOps xs pos = .ok l p) (hn : pos ≤ xs.length) : cut xs pos p = putOps l ∧ pos ≤ p ∧ p ≤ xs.length ∧ checkOps l = (0, 0) ∧ ∀ o ∈ l, o.nums := by
  unfold rdOps at h
  rcases h1 : rdNum xs pos 1024 with ⟨n, p1⟩ | ⟨w, a⟩
  · rw [h1] at h
    simp only [Rd.bind] at h
    obtain ⟨h2, h3⟩ := rdNum_cut h1
    obtain ⟨h4, h5, h6, _⟩ := rdNum_ok h1 hn
    obtain ⟨new, e1, e2, e3, e4, e5, e6, e7⟩ := rdList_cut n p1 p [] l h h6 (by simpa using h4)
    simp only [List.nil_append] at e1
    subst e1
    refine ⟨?_, by omega, e5, ?_, e7⟩
    · rw [← cut_cat (Nat.le_of_lt h3) e4, h2, e3]
      unfold putOps
      rw [e2]
    · unfold checkOps
      rw [if_neg (by omega)]
      exact e6
  · rw [h1] at h; cases h
def hashOf (b : Bytes) (i : Nat) : Bytes := b.take i ++ List.replicate (32 - i) 0
theorem hashOf_length (b : Bytes) (i : Nat) (hi : i ≤ b.length) (hb : b.length ≤ 32) : (hashOf b i).length = 32 := by
  unfold hashOf; simp; omega
def mkHash (b : Bytes) : GHash := if h : b.length ≤ 32 then ⟨hashOf b b.length, hashOf_length b _ (Nat.le_refl _) h⟩ else GHash.zero
theorem mkHash_nil : mkHash [] = GHash.zero := rfl
theorem mkHash_32 (b : Bytes) (h : b.length = 32) : (mkHash b).l = b := by
  unfold mkHash
  rw [dif_pos (by omega)]
  simp only [hashOf]
  rw [h, Nat.sub_self, List.take_of_length_le (by omega)]
  simp
theorem mkHash_cells (b : Bytes) (h : b.length ≤ 32) : (mkHash b).cells = (hashOf b b.length).map bv := by
  unfold mkHash GHash.cells
  rw [dif_pos h]
theorem hashOf_zero (b : Bytes) : (hashOf b 0).map bv = GHash.zero.cells := rfl
theorem hashOf_succ (b : Bytes) (i : Nat) (hi : i < b.length) (hb : b.length ≤ 32) : ((hashOf b i).map bv).toArray.setIfInBounds i (bv b[i]) = ((hashOf b (i + 1)).map bv).toArray := by
  apply Array.toList_inj.1
  have e : b.take (i + 1) = b.take i ++ [b[i]] := List.take_succ_eq_append_getElem hi
  have e2 : 32 - i = (32 - (i + 1)) + 1 := by omega
  have e3 : (b.take i).length = i := by rw [List.length_take]; omega
  simp only [Array.toList_setIfInBounds, hashOf]
  rw [← List.map_set, e, e2, List.replicate_succ, List.set_append_right i b[i] (by omega), e3, Nat.sub_self, List.set_cons_zero, List.append_assoc]
  rfl
theorem rdHash_raw (xs : Bytes) (m : Nat) : rdHash xs m = (rdRaw xs m 32).bind fun b p => .ok (mkHash b) p := by
  unfold rdHash rdRaw
  by_cases h : m + 32 ≤ xs.length
  · rw [dif_pos h, if_neg (by omega)]
    simp only [Rd.bind]
    congr 1
    have e := mkHash_32 ((xs.drop m).take 32) (by simp; omega)
    cases hh : mkHash ((xs.drop m).take 32) with
    | mk l hl => rw [hh] at e; simp only at e; subst e; rfl
  · rw [dif_neg h, if_pos (by omega)]
    rfl
end Go.Proofs.Ytlpjeckhejbkkaa
end
