import Derived.Test.YtlpjeckhejbkkaaIn
set_option linter.unusedVariables false
set_option linter.unusedSimpArgs false
set_option maxRecDepth 20000
set_option maxHeartbeats 400000
namespace Go.Proofs.Ytlpjeckhejbkkaa
open Go.RowKit

/-- what is laid: its struct, its bytes; F: all blocks that it may write -/
def OutB (w : World) (p : Nat) (F : List Nat) (xs : Bytes) : Prop :=
  ∃ v, Blk w p 110 #[v] ∧ OwnB w v xs ∧ (∀ b ∈ blks v, b ∈ F) ∧ p ∈ F ∧ ∀ b ∈ F, b < w.heap.size
theorem OutB.mod {w w' : World} {p : Nat} {F S : List Nat} {xs : Bytes} (h : OutB w p F xs) (hm : Mod S w w') (hd : ∀ b ∈ F, b ∉ S) : OutB w' p F xs := by
  obtain ⟨v, hb, ho, hF, hp⟩ := h
  exact ⟨v, hb.mod hm (hd p hp.1), ho.mod hm (fun b hb => hd b (hF b hb)), hF, hp.1, fun b hb => Nat.lt_of_lt_of_le (hp.2 b hb) hm.size⟩
def Fresh (w : World) (F F' : List Nat) : Prop := ∀ b ∈ F', b ∈ F ∨ w.heap.size ≤ b
theorem Fresh.refl (w : World) (F : List Nat) : Fresh w F F := fun _ h => .inl h
theorem Fresh.trans {w w' : World} {F F' F'' : List Nat} (h : Fresh w F F') (k : Fresh w' F' F'') (hs : w.heap.size ≤ w'.heap.size) : Fresh w F F'' := fun b hb => by
  rcases k b hb with h1 | h1
  · exact h b h1
  · right; omega
theorem Mod.fresh {w a b : World} {F F' : List Nat} (h : Mod F w a) (hf : Fresh w F F') (k : Mod F' a b) : Mod F w b := h.then k hf
def OutP (w : World) (p : Nat) (F : List Nat) (xs : Bytes) (e' : Ending) (w' : World) : Prop :=
  e' = .returned (.tuple #[]) ∧ ∃ F', OutB w' p F' xs ∧ Mod F w w' ∧ Fresh w F F'

theorem newOut_any (w : World) : Calls Try.prog 39 #[] w fun e' w' => e' = .returned (ptr w.heap.size) ∧ OutB w' w.heap.size [w.heap.size] [] ∧ Mod [] w w' := by
  go_enter Try.func39, Try.ntmps39
  go_wp2
  go_ret
  exact ⟨rfl, ⟨.slice none 0 0, Blk.new w _ _, OwnB.nil _, by simp [blks, Value.ownBlock], by simp, by simp⟩, (Mod.refl [] w).alloc _⟩
theorem out_step {w w1 : World} {p : Nat} {F : List Nat} {v v1 : Value} {xs zs : Bytes} (hb : Blk w p 110 #[v]) (ho : OwnB w v xs) (hF : ∀ b ∈ blks v, b ∈ F) (hp : p ∈ F ∧ ∀ b ∈ F, b < w.heap.size)
    (h1 : OwnB w1 v1 zs) (hm : Mod (blks v) w w1) (hf : ∀ b ∈ blks v1, b ∈ blks v ∨ w.heap.size ≤ b) :
    OutB (w1.setCell ⟨p, 0, none⟩ v1) p (F ++ blks v1) zs ∧ Mod F w (w1.setCell ⟨p, 0, none⟩ v1) ∧ Fresh w F (F ++ blks v1) := by
  have hpv : p ∉ blks v := own_ne ho hb (by decide)
  have hb1 := hb.mod hm hpv
  have hp1 : p ∉ blks v1 := own_ne h1 hb1 (by decide)
  refine ⟨⟨v1, hb1.set_ 0 _, h1.mod ((Mod.refl [p] w1).setCell _ (by simp) _) ?_, fun b hb => by simp [hb], by simp [hp.1], ?_⟩, (hm.mono fun i hi _ => hF i hi).setCell _ (.inl hp.1) _, fun b hb => ?_⟩
  · intro b hbv hbp
    simp only [List.mem_singleton] at hbp
    subst hbp
    exact hp1 hbv
  · intro b hb
    have hsz : (w1.setCell ⟨p, 0, none⟩ v1).heap.size = w1.heap.size := by simp [World.setCell]
    rw [hsz]
    rcases List.mem_append.1 hb with h | h
    · exact Nat.lt_of_lt_of_le (hp.2 b h) hm.size
    · exact h1.lt b h
  · rcases List.mem_append.1 hb with h | h
    · exact .inl h
    · rcases hf b h with h2 | h2
      · exact .inl (hF b h2)
      · exact .inr h2
theorem OutB.lt {w : World} {p : Nat} {F : List Nat} {xs : Bytes} (h : OutB w p F xs) : p < w.heap.size := by
  obtain ⟨v, hb, _⟩ := h
  exact hb.lt
theorem OutB.all {w : World} {p : Nat} {F : List Nat} {xs : Bytes} (h : OutB w p F xs) : ∀ b ∈ F, b < w.heap.size := by
  obtain ⟨_, _, _, _, _, h⟩ := h
  exact h
/-- its parts, for a walk -/
theorem OutB.open_ {w : World} {p : Nat} {F : List Nat} {xs : Bytes} (h : OutB w p F xs) : ∃ A n cap, w.cell? ⟨p, 0, none⟩ = some (.slice A n cap) ∧ w.frozen? ⟨p, 0, none⟩ = false ∧ p < w.heap.size ∧ Hid (n = xs.length) ∧
    Hid (Blk w p 110 #[.slice A n cap] ∧ OwnB w (.slice A n cap) xs ∧ (∀ b ∈ blks (.slice A n cap), b ∈ F) ∧ p ∈ F ∧ ∀ b ∈ F, b < w.heap.size) := by
  obtain ⟨v, hb, ho, hF, hp⟩ := h
  obtain ⟨A, cap, rfl, _, _⟩ := ho.val
  exact ⟨A, _, cap, hb.cell 0, hb.frozen 0, hb.lt, Lib.hid rfl, Lib.hid ⟨hb, ho, hF, hp⟩⟩
theorem outByte_any (p : Nat) (F : List Nat) (xs : Bytes) (x : UInt8) (xi : Int) (hx : xi = x.toNat) (w : World) (hO : OutB w p F xs) (hz : xs.length ≤ 190000000000000) :
    Calls Try.prog 40 #[ptr p, .int .u8 xi] w (OutP w p F (xs ++ [x])) := by
  obtain ⟨A, n, cap, h0, f0, hl, HN, HO⟩ := hO.open_
  clear hO
  have HX := Lib.hid hx; clear hx
  go_enter Try.func40, Try.ntmps40
  have HS := Lib.hid (bs_one w 5 HX.out)
  have ho1 : OwnB (w.alloc (.cells #[.int .u8 xi] 5)) (.slice A n cap) xs := HO.out.2.1.mod ((Mod.refl [] w).alloc _) (by simp)
  have HO0 := Lib.hid ho1; clear ho1
  go_wp2_with (at_builtin; refine wpList_append_bytes rfl _ _ rfl HO0.out rfl HS.out rfl ?_ ?hz; intro A1 n1 cap1 w1 hown1 hn1 hm1 HF1; have hm0 : Mod (blks (.slice A n cap)) w w1 := ((Mod.refl _ w).alloc (.cells #[.int .u8 xi] 5)).trans hm1; have hb1 := HO.out.1.mod hm0 (own_ne HO.out.2.1 HO.out.1 (by decide)); have c1 : w1.cell? ⟨p, 0, none⟩ = some (.slice A n cap) := hb1.cell 0; have f1 := hb1.frozen 0; have HO1 := Lib.hid hown1; have HM1 := Lib.hid hm0; clear hown1 hb1 hm1 hm0)
  case hz => simp; omega
  go_end0
  have hs := out_step HO.out.1 HO.out.2.1 HO.out.2.2.1 HO.out.2.2.2 HO1.out HM1.out (fun b hb => (HF1.out b hb).imp id (by simp; omega))
  exact ⟨rfl, _, hs⟩
end Go.Proofs.Ytlpjeckhejbkkaa
