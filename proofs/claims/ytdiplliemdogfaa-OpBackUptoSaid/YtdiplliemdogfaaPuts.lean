import Derived.Test.YtdiplliemdogfaaRefPuta
import Derived.Test.YtdiplliemdogfaaRef3
import Derived.Test.YtdiplliemdogfaaReg
set_option linter.unusedVariables false
set_option linter.unusedSimpArgs false
set_option maxRecDepth 20000
set_option maxHeartbeats 1600000
namespace Go.Proofs.Ytdiplliemdogfaa
open Go.RowKit

/-- what is laid, and the bytes that it must be, both made by the law -/
def TP (w : World) (p : Nat) (F : List Nat) (xs : Bytes) (s : Value) (ys : Bytes) (wr : World) : Prop :=
  OutB wr p F xs ∧ OwnB wr s ys ∧ Mod [] w wr ∧ (∀ b ∈ F, w.heap.size ≤ b) ∧ (∀ b ∈ blks s, w.heap.size ≤ b) ∧ (∀ b ∈ blks s, b ∉ F)
section
variable {w wr w' : World} {p : Nat} {F : List Nat} {s : Value} {xs ys zs : Bytes} {e : Ending}
theorem TP.mod (h : TP w p F xs s ys wr) (hm : Mod [] wr w') : TP w p F xs s ys w' := by
  obtain ⟨h1, h2, h3, h4, h5, h6⟩ := h
  exact ⟨h1.mod hm (by simp), h2.mod hm (by simp), h3.trans hm, h4, h5, h6⟩
theorem TP.put_ {F' : List Nat} (h : TP w p F xs s ys wr) (h1 : OutB w' p F' zs) (hm : Mod F wr w') (hf : Fresh wr F F') : TP w p F' zs s ys w' := by
  obtain ⟨k1, k2, k3, k4, k5, k6⟩ := h
  refine ⟨h1, k2.mod hm k6, k3.then hm (fun b hb => .inr (k4 b hb)), fun b hb => ?_, k5, fun b hb hb' => ?_⟩
  · rcases hf b hb with h | h
    · exact k4 b h
    · have := k3.size; omega
  · rcases hf b hb' with h | h
    · exact k6 b hb h
    · have := k2.lt b hb; omega
theorem TP.out (h : TP w p F xs s ys wr) (hp : OutP wr p F zs e w') : e = .returned (.tuple #[]) ∧ ∃ F', TP w p F' zs s ys w' := by
  obtain ⟨he, F', h1, h2, h3⟩ := hp
  exact ⟨he, F', h.put_ h1 h2 h3⟩
theorem TP.app_ {s' : Value} (h : TP w p F xs s ys wr) (h1 : OwnB w' s' zs) (hm : Mod (blks s) wr w') (hf : Fresh wr (blks s) (blks s')) : TP w p F xs s' zs w' := by
  obtain ⟨k1, k2, k3, k4, k5, k6⟩ := h
  refine ⟨k1.mod hm (fun b hb hb' => k6 b hb' hb), h1, k3.then hm (fun b hb => .inr (k5 b hb)), k4, fun b hb => ?_, fun b hb hb' => ?_⟩
  · rcases hf b hb with h | h
    · exact k5 b h
    · have := k3.size; omega
  · rcases hf b hb with h | h
    · exact k6 b h hb'
    · have := k1.all b hb'; omega
theorem TP.app (h : TP w p F xs s ys wr) (hp : AppP wr s zs e w') : ∃ A n cap, e = .returned (.slice A n cap) ∧ TP w p F xs (.slice A n cap) zs w' := by
  obtain ⟨A, n, cap, he, h1, h2, h3⟩ := hp
  exact ⟨A, n, cap, he, h.app_ h1 h2 h3⟩
theorem TP.bs (h : TP w p F xs s ys wr) : ∃ g, BS wr g s ys := by
  obtain ⟨g, hg, _⟩ := h.2.1.bs
  exact ⟨g, hg⟩
theorem TP.new {g : Nat} (h : OutB wr p F xs) (hm : Mod [] w wr) (hF : ∀ b ∈ F, w.heap.size ≤ b) : TP w p F xs (.slice none 0 0) [] wr :=
  ⟨h, OwnB.nil _, hm, hF, by simp [blks, Value.ownBlock], by simp [blks, Value.ownBlock]⟩
end
theorem mod_refl_T (S : List Nat) (w : World) : Mod S w w = True := eq_true (Mod.refl S w)
theorem mod_alloc_T {S : List Nat} {a w : World} {o : Obj} (h : Mod S a w) : Mod S a (w.alloc o) = True := eq_true (h.alloc o)
theorem mod_drew_T {S : List Nat} {a w : World} (h : Mod S a w) : Mod S a w.drew = True := eq_true h.drew
theorem mod_drewN_T {S : List Nat} {a w : World} {n : Nat} (h : Mod S a w) : Mod S a (w.drewN n) = True := eq_true (h.drewN n)
attribute [local go_sem] mod_refl_T mod_alloc_T mod_drew_T mod_drewN_T
theorem conv_all {w : World} {g : Nat} {v : Value} {xs : Bytes} (h : BS w g v xs) (S : List Nat) (hg : 0 < xs.length → g ∉ S) : ∀ W, Mod S w W → (convert 36 9 v).run Try.prog W = .ok (.string ⟨xs.toArray⟩) W :=
  fun W hm => run_str (h.mod hm hg)
theorem TP.outM {w wr : World} {p : Nat} {F : List Nat} {s : Value} {xs ys : Bytes} (h : TP w p F xs s ys wr) : ∀ W, Mod [] wr W → OutB W p F xs := fun W hm => h.1.mod hm (by simp)
theorem putOps_length (l : List GOp) (h0 : (checkOps l).1 = 0) (hn : ∀ o ∈ l, o.nums) : (putOps l).length ≤ 307200010 := by
  obtain ⟨hl, hall⟩ := check_all h0
  have h1 := takeOps_length l hl hall hn l.length (Nat.le_refl _)
  rw [List.take_length] at h1
  have h2 := putNum_length10 l.length (by omega)
  unfold putOps
  rw [List.length_append]
  omega
theorem TP.ownM {w wr : World} {p : Nat} {F : List Nat} {s : Value} {xs ys : Bytes} (h : TP w p F xs s ys wr) : ∀ W, Mod [] wr W → OwnB W s ys := fun W hm => h.2.1.mod hm (by simp)
theorem step_append_bytesK {o : Oper} {a : Act} {K : Act → World → Prop} {Q : Exit → Act → World → Prop} {w : World} (s x : Operand)
    (ho : o.op = .call { callee := .builtin .append, args := #[s, x], argTypes := #[36, 36] })
    {v : Value} {xs : Bytes} (hown : OwnB w v xs) (hs : a.eval s = v) {g : Nat} {sv : Value} {ys : Bytes} (hr : BS w g sv ys) (hx : a.eval x = sv)
    (h : ∀ A' n' cap' w', OwnB w' (.slice A' n' cap') (xs ++ ys) → Hid (n' = xs.length + ys.length) → Mod (blks v) w w' → Hid (∀ b ∈ blks (.slice A' n' cap'), b ∈ blks v ∨ b = w.heap.size) → K (a.put o.dst (.slice A' n' cap')) w') (hz : xs.length + ys.length ≤ 200000000000000) :
    Oper.wp Try.prog o a w K Q := by
  obtain ⟨v', w', hrun, h2, h3, h4⟩ := run_append_src (P := Try.prog) w (ty := o.type) etBytes hown (Src.of_rs w Try.underlying36 hr (bv_one ys)) (by unfold maxLen; omega) (by omega)
  obtain ⟨A', cap', rfl, _, _⟩ := own_slice h2
  unfold Oper.wp execOp
  simp only [ho, resolve, invoke, builtin, Sem.run_bind, Sem.run_pure, Result.andThen_ok, List.map_toArray, List.map_cons, List.map_nil, hs, hx, hrun]
  refine h A' _ cap' w' ?_ (Lib.hid rfl) h3 (Lib.hid h4)
  unfold OwnB
  rw [List.length_append, List.map_append]
  exact h2
theorem puts_any (ahead : Bytes) (l : List GOp) (ga g : Nat) (va v : Value) (w : World) (ha : BS w ga va ahead) (hs : OS w g v l) (hn : ∀ o ∈ l, o.nums) (hz : ahead.length ≤ 140737488355328) :
    Calls Try.prog 5 #[va, v] w fun e w' => e = .returned (.bool true) ∧ Mod [] w w' := by
  obtain ⟨A, cap, rfl, _, _⟩ := hs.val
  obtain ⟨Aa, capa, rfl, _, _⟩ := ha.val
  have HS := Lib.hid hs; clear hs
  have HA := Lib.hid ha; clear ha
  have HN := Lib.hid hn; clear hn
  go_enter Try.func5, Try.ntmps5
  go_wp2_with fail
  refine (newOut_any w).mono ?_
  rintro e' w1 ⟨rfl, hO1, hm1⟩
  have HM1 := Lib.hid hm1
  have HO1 := Lib.hid hO1
  clear hO1 hm1
  go_wp2_with fail
  refine (outRaw_any w.heap.size _ [] ahead ga _ w1 HO1.out (HA.out.mod HM1.out (by simp)) (by simp; omega)).mono ?_
  rintro e' w2 ⟨rfl, F2, hO2, hm2, hf2⟩
  have hm02 : Mod [] w w2 := HM1.out.then hm2 (by simp)
  have hF2 : ∀ b ∈ F2, w.heap.size ≤ b := fun b hb => by
    rcases hf2 b hb with h | h
    · simp at h; omega
    · have := HM1.out.size; omega
  have HT2 := Lib.hid (TP.new (g := 0) hO2 hm02 hF2)
  clear hO2 hm2 hf2 hm02 hF2 HO1 HM1
  go_wp2_with (at_builtin; refine wpList_append_bytes rfl _ _ rfl (OwnB.nil w2) rfl (HA.out.mod HT2.out.2.2.1 (by simp)) rfl ?_ ?hz; intro A3 n3 cap3 w3 hown3 hn3 hm3 HF3; have HT3 := Lib.hid (HT2.out.app_ hown3 hm3 (fun b hb => (HF3.out b hb).imp id (by omega))); clear hown3 hn3 hm3 HF3 HT2)
  case hz => simp; omega
  have hput := put_any l g _ w.heap.size F2 _ w3 HT3.out.1 (HS.out.mod HT3.out.2.2.1 (by simp)) (fun h0 hb => by
    obtain ⟨_, _, _, _, _, hl, _⟩ := HS.out.at_ h0
    have := HT3.out.2.2.2.1 _ hb
    omega) HN.out (by simp; omega)
  refine hput.mono ?_
  clear hput
  rintro e' w4 ⟨rfl, F4, hO4, hm4, hf4⟩
  have HT4 := Lib.hid (HT3.out.put_ hO4 hm4 hf4)
  clear hO4 hm4 hf4 HT3
  go_wp2_with fail
  refine (refCheck_any l g _ w4 (HS.out.mod HT4.out.2.2.1 (by simp))).mono ?_
  rintro e' w5 ⟨rfl, hm5⟩
  have HT5 := Lib.hid (HT4.out.mod hm5)
  clear HT4 hm5
  have HZ : Hid (ahead.length ≤ 140737488355328) := Lib.hid hz
  clear hz
  have HL : Hid ((checkOps l).1 = 0 → (putOps l).length ≤ 307200010) := Lib.hid (fun h0 => putOps_length l h0 HN.out)
  by_cases h0 : (checkOps l).1 = 0
  · have H0 := Lib.hid h0
    rw [if_pos h0] at HT5
    rw [h0]
    clear h0
    go_wp2_with fail
    have hrp := refPut_any _ _ l g _ w5 HT5.out.2.1 (HS.out.mod HT5.out.2.2.1 (by simp)) (fun h0 hb => by
      obtain ⟨_, _, _, _, _, hl, _⟩ := HS.out.at_ h0
      have := HT5.out.2.2.2.2.1 _ hb
      omega) HN.out H0.out (by simp; have := HZ.out; omega)
    refine hrp.mono ?_
    rintro e' w6 hp6
    obtain ⟨A6, n6, cap6, rfl, hp6'⟩ := HT5.out.app hp6
    obtain ⟨Z, hZ⟩ : ∃ Z, [] ++ ahead ++ putOps l = Z := ⟨_, rfl⟩
    rw [hZ] at hp6'
    have HT6 := Lib.hid hp6'
    have HZL : Hid (Z.length ≤ 150000000000000) := Lib.hid (by rw [← hZ]; have := HL.out H0.out; have := HZ.out; simp; omega)
    obtain ⟨er, her⟩ : ∃ er, (0 : Int) = er := ⟨_, rfl⟩
    clear hp6 hp6' hrp HT5 hZ HZ HL H0
    go_wp2_with fail
    obtain ⟨gb, hbs⟩ := HT6.out.bs
    have HO := Lib.hid HT6.out.outM
    have HCV := Lib.hid (conv_all hbs [] (by simp))
    clear hbs
    have hmz := mod_refl_T [] w6
    refine wp_regionE (Mod []) (by kernel_rfl) ?_
    simp only [List.size_toArray, List.length_cons, List.length_nil, Nat.zero_add, Nat.reduceAdd]
    refine wpAnyE_takeL (preMod []) 0 (v := ?_) rfl (by kernel_rfl) (by kernel_rfl) (by kernel_rfl) (fun _ _ _ h => h) (Or.inl ⟨by rfl, ?_⟩) ?_
    rotate_left; (intro W hW; (try dsimp only at hW); go_simp; try with_reducible rfl)
    (try simp only [Act.put, List.setIfInBounds_toArray, List.set_cons_zero, List.set_cons_succ])
    refine wpAnyE_takeL (preMod []) 1 (v := ?_) rfl (by kernel_rfl) (by kernel_rfl) (by kernel_rfl) (fun _ _ _ h => h) (Or.inl ⟨by rfl, ?_⟩) ?_
    rotate_left; (intro W hW; (try dsimp only at hW); go_simp; try with_reducible rfl)
    (try simp only [Act.put, List.setIfInBounds_toArray, List.set_cons_zero, List.set_cons_succ])
    refine wpAnyE_takeL (preMod []) 2 (v := ?_) rfl (by kernel_rfl) (by kernel_rfl) (by kernel_rfl) (fun _ _ _ h => h) (Or.inl ⟨by rfl, ?_⟩) ?_
    rotate_left; (intro W hW; (try dsimp only at hW); go_simp; try with_reducible rfl)
    (try simp only [Act.put, List.setIfInBounds_toArray, List.set_cons_zero, List.set_cons_succ])
    refine wpAnyE_takeL (preMod []) 3 (v := ?_) rfl (by kernel_rfl) (by kernel_rfl) (by kernel_rfl) (fun _ _ _ h => h) (Or.inl ⟨by rfl, ?_⟩) ?_
    rotate_left; (intro W hW; (try dsimp only at hW); go_simp; try with_reducible rfl)
    (try simp only [Act.put, List.setIfInBounds_toArray, List.set_cons_zero, List.set_cons_succ])
    refine wpAnyE_takeL (preMod []) 4 (v := ?_) rfl (by kernel_rfl) (by kernel_rfl) (by kernel_rfl) (fun _ _ _ h => h) (Or.inl ⟨by rfl, ?_⟩) ?_
    rotate_left; (intro W hW; (try dsimp only at hW); go_simp; try with_reducible rfl)
    (try simp only [Act.put, List.setIfInBounds_toArray, List.set_cons_zero, List.set_cons_succ])
    refine wpAnyE_takeL (preMod []) 7 (v := ?_) rfl (by kernel_rfl) (by kernel_rfl) (by kernel_rfl) (fun _ _ _ h => h) (Or.inl ⟨by rfl, ?_⟩) ?_
    rotate_left; (intro W hW; (try dsimp only at hW); go_simp; try with_reducible rfl)
    (try simp only [Act.put, List.setIfInBounds_toArray, List.set_cons_zero, List.set_cons_succ])
    refine wpAnyE_takeL (preMod []) 8 (v := ?_) rfl (by kernel_rfl) (by kernel_rfl) (by kernel_rfl) (fun _ _ _ h => h) (Or.inl ⟨by rfl, ?_⟩) ?_
    rotate_left; (intro W hW; (try dsimp only at hW); (have hWz : Mod [] w6 W := Mod.trans (by simp only [mod_refl_T, mod_drew_T, mod_alloc_T]) hW; have hcw := HCV.out W hWz; go_simp); try with_reducible rfl)
    (try simp only [Act.put, List.setIfInBounds_toArray, List.set_cons_zero, List.set_cons_succ])
    refine wpAnyE_ready (rs := [5]) (by kernel_rfl) (by simp) ?_
    refine AllReadyE.consL rfl (fun K hK => ?_) AllReadyE.nil
    rw [if_pos (by rfl)]
    go_simp
    go_at_call 21
    refine (outDone_any _ F4 Z _ (HO.out _ (by simp only [mod_refl_T, mod_drew_T, mod_alloc_T])) (by have := HZL.out; omega)).mono ?_
    rintro e' w7 ⟨v7, rfl, hown7, hmE, hf7⟩
    have hm67 : Mod [] w6 w7 := (Mod.refl _ _).drew.trans hmE
    have HT7 := Lib.hid (HT6.out.mod hm67)
    obtain ⟨gd, hbd⟩ := hown7.bs
    have hcd := conv_all hbd.1 [] (by simp)
    go_wp2_with fail
    refine hK.out _ _ (by first | exact hmE | exact Mod.refl _ _ | exact (Mod.refl _ _).alloc _) ?_
    clear hK
    (try simp only [Act.put, List.setIfInBounds_toArray, List.set_cons_zero, List.set_cons_succ])
    refine wpAnyE_takeL (preMod []) 6 (v := ?_) rfl (by kernel_rfl) (by kernel_rfl) (by kernel_rfl) (fun _ _ _ h => h) (Or.inl ⟨by rfl, ?_⟩) ?_
    rotate_left; (intro W hW; (try dsimp only at hW); (have hcw := hcd W hW; go_simp); try with_reducible rfl)
    (try simp only [Act.put, List.setIfInBounds_toArray, List.set_cons_zero, List.set_cons_succ])
    refine wpAnyE_takeL (preMod []) 9 (v := ?_) rfl (by kernel_rfl) (by kernel_rfl) (by kernel_rfl) (fun _ _ _ h => h) (Or.inl ⟨by rfl, ?_⟩) ?_
    rotate_left; (intro W hW; (try dsimp only at hW); go_simp; try with_reducible rfl)
    (try simp only [Act.put, List.setIfInBounds_toArray, List.set_cons_zero, List.set_cons_succ])
    refine wpAnyE_takeL (preMod []) 10 (v := ?_) rfl (by kernel_rfl) (by kernel_rfl) (by kernel_rfl) (fun _ _ _ h => h) (Or.inl ⟨by rfl, ?_⟩) ?_
    rotate_left; (intro W hW; (try dsimp only at hW); go_simp; try with_reducible rfl)
    (try simp only [Act.put, List.setIfInBounds_toArray, List.set_cons_zero, List.set_cons_succ])
    refine wpAnyE_done (by kernel_rfl) ?_ _
    clear HO HCV hcd hbd hown7 hf7 hmE hm67 HT6
    go_wp2_with fail
    refine (outByte_any _ F4 Z 7 7 rfl w7 HT7.out.1 (by have := HZL.out; omega)).mono ?_
    rintro e' w8 hp8
    obtain ⟨rfl, F8, hp8'⟩ := HT7.out.out hp8
    have HT8 := Lib.hid hp8'
    clear HT7 hp8 hp8'
    have HO := Lib.hid HT8.out.outM
    have HW := Lib.hid HT8.out.ownM
    have HZ8 : Hid (Z.length + 1 ≤ 180000000000000) := Lib.hid (by have := HZL.out; omega)
    have HF8 : Hid (∀ b ∈ blks (.slice A6 n6 cap6), b < w8.heap.size) := Lib.hid (HT8.out.2.1.lt)
    have hm89 := mod_refl_T [] w8
    go_wp2_with fail
    refine wp_regionE (Mod (blks (.slice A6 n6 cap6))) (by kernel_rfl) ?_
    simp only [List.size_toArray, List.length_cons, List.length_nil, Nat.zero_add, Nat.reduceAdd]
    refine wpAnyE_takeL (preMod _) 0 (v := ?_) rfl (by kernel_rfl) (by kernel_rfl) (by kernel_rfl) (fun _ _ _ h => h) (Or.inl ⟨by rfl, ?_⟩) ?_
    rotate_left; (intro W hW; (try dsimp only at hW); go_simp; try with_reducible rfl)
    (try simp only [Act.put, List.setIfInBounds_toArray, List.set_cons_zero, List.set_cons_succ])
    refine wpAnyE_takeL (preMod _) 3 (v := ?_) rfl (by kernel_rfl) (by kernel_rfl) (by kernel_rfl) (fun _ _ _ h => h) (Or.inl ⟨by rfl, ?_⟩) ?_
    rotate_left; (intro W hW; (try dsimp only at hW); go_simp; try with_reducible rfl)
    (try simp only [Act.put, List.setIfInBounds_toArray, List.set_cons_zero, List.set_cons_succ])
    refine wpAnyE_ready (rs := [1, 4]) (by kernel_rfl) (by simp) ?_
    refine AllReadyE.consL rfl (fun K hK => ?_) ?_
    · rw [if_pos (by rfl)]
      go_simp
      go_at_call 21
      refine (outDone_any _ F8 (Z ++ [7]) _ (HO.out _ (by simp only [mod_refl_T, mod_drew_T, mod_alloc_T, hm89])) (by simp; have := HZ8.out; omega)).mono ?_
      rintro e' w9 ⟨v9, rfl, hown9, hm9, hf9⟩
      clear hm89
      have hmE := hm9.mono (T := blks (.slice A6 n6 cap6)) (by simp)
      have hm89 : Mod [] w8 w9 := Mod.trans (by simp only [mod_refl_T, mod_drew_T, mod_alloc_T]) hm9
      have hmw9 : Mod [] w w9 := HT8.out.2.2.1.trans hm89
      obtain ⟨gd, hbd⟩ := hown9.bs
      have hcd := conv_all hbd.1 (blks (.slice A6 n6 cap6)) (fun h0 hb => by have h1 := hf9 _ (hbd.2 h0); have h2 := HF8.out _ hb; simp at h1; omega)
      go_wp2_with fail
      refine hK.out _ _ (by first | exact hmE | exact Mod.refl _ _ | exact (Mod.refl _ _).alloc _) ?_
      clear hK
      (try simp only [Act.put, List.setIfInBounds_toArray, List.set_cons_zero, List.set_cons_succ])
      refine wpAnyE_takeL (preMod _) 2 (v := ?_) rfl (by kernel_rfl) (by kernel_rfl) (by kernel_rfl) (fun _ _ _ h => h) (Or.inl ⟨by rfl, ?_⟩) ?_
      rotate_left; (intro W hW; (try dsimp only at hW); (have hcw := hcd W hW; go_simp); try with_reducible rfl)
      (try simp only [Act.put, List.setIfInBounds_toArray, List.set_cons_zero, List.set_cons_succ])
      refine wpAnyE_ready (rs := [4]) (by kernel_rfl) (by simp) ?_
      refine AllReadyE.consL rfl (fun K hK => ?_) AllReadyE.nil
      rw [if_pos (by rfl)]
      go_simp
      refine hK.out _ _ (by first | exact hmE | exact Mod.refl _ _ | exact (Mod.refl _ _).alloc _) ?_
      clear hK
      (try simp only [Act.put, List.setIfInBounds_toArray, List.set_cons_zero, List.set_cons_succ])
      refine wpAnyE_ready (rs := [5]) (by kernel_rfl) (by simp) ?_
      refine AllReadyE.consL rfl (fun K hK => ?_) AllReadyE.nil
      rw [if_pos (by rfl)]
      first | (refine step_append_bytesK _ _ (by rfl) (HW.out _ (by simp only [mod_refl_T, mod_drew_T, mod_alloc_T, hm89])) (by rfl) (bs_one w9 5 (x := 7) rfl) (by rfl) ?_ (by have := HZ8.out; simp; omega)) | (refine step_append_bytesK _ _ (by rfl) (HW.out _ (by simp only [mod_refl_T, mod_drew_T, mod_alloc_T, hm89])) (by rfl) (RS.mod (bs_one w8.drew 5 (x := 7) rfl) hm9 (by simp)) (by rfl) ?_ (by have := HZ8.out; simp; omega))
      intro A10 n10 cap10 w10 hown10 hn10 hmE HF10
      have hm910 : Mod (blks (.slice A6 n6 cap6)) w9 w10 := Mod.trans (by simp only [mod_refl_T, mod_drew_T, mod_alloc_T]) hmE
      have hmw10 : Mod [] w w10 := hmw9.then hm910 (fun b hb => .inr (HT8.out.2.2.2.2.1 b hb))
      obtain ⟨g10, hb10⟩ := hown10.bs
      have hc10 := conv_all hb10.1 [] (by simp)
      refine hK.out _ _ (by first | exact hmE | exact Mod.refl _ _ | exact (Mod.refl _ _).alloc _) ?_
      clear hK
      (try simp only [Act.put, List.setIfInBounds_toArray, List.set_cons_zero, List.set_cons_succ])
      refine wpAnyE_ready (rs := [6]) (by kernel_rfl) (by simp) ?_
      refine AllReadyE.consL rfl (fun K hK => ?_) AllReadyE.nil
      rw [if_pos (by rfl)]
      have hcw := run_str hb10.1
      go_simp
      refine hK.out _ _ (by first | exact hmE | exact Mod.refl _ _ | exact (Mod.refl _ _).alloc _) ?_
      clear hK
      (try simp only [Act.put, List.setIfInBounds_toArray, List.set_cons_zero, List.set_cons_succ])
      refine wpAnyE_takeL (preMod _) 7 (v := ?_) rfl (by kernel_rfl) (by kernel_rfl) (by kernel_rfl) (fun _ _ _ h => h) (Or.inl ⟨by rfl, ?_⟩) ?_
      rotate_left; (intro W hW; (try dsimp only at hW); go_simp; try with_reducible rfl)
      (try simp only [Act.put, List.setIfInBounds_toArray, List.set_cons_zero, List.set_cons_succ])
      refine wpAnyE_takeL (preMod _) 8 (v := ?_) rfl (by kernel_rfl) (by kernel_rfl) (by kernel_rfl) (fun _ _ _ h => h) (Or.inl ⟨by rfl, ?_⟩) ?_
      rotate_left; (intro W hW; (try dsimp only at hW); go_simp; try with_reducible rfl)
      (try simp only [Act.put, List.setIfInBounds_toArray, List.set_cons_zero, List.set_cons_succ])
      refine wpAnyE_ready (rs := [9]) (by kernel_rfl) (by simp) ?_
      refine AllReadyE.consL rfl (fun K hK => ?_) AllReadyE.nil
      rw [if_pos (by rfl)]
      go_simp
      go_at_call 10
      refine (fixed_any _).mono ?_
      rintro e' w11 ⟨rfl, hm11⟩
      have hmE := hm11.mono (T := blks (.slice A6 n6 cap6)) (by simp)
      go_wp2_with fail
      refine hK.out _ _ (by first | exact hmE | exact Mod.refl _ _ | exact (Mod.refl _ _).alloc _) ?_
      clear hK
      (try simp only [Act.put, List.setIfInBounds_toArray, List.set_cons_zero, List.set_cons_succ])
      refine wpAnyE_takeL (preMod _) 10 (v := ?_) rfl (by kernel_rfl) (by kernel_rfl) (by kernel_rfl) (fun _ _ _ h => h) (Or.inl ⟨by rfl, ?_⟩) ?_
      rotate_left; (intro W hW; (try dsimp only at hW); go_simp; try with_reducible rfl)
      (try simp only [Act.put, List.setIfInBounds_toArray, List.set_cons_zero, List.set_cons_succ])
      refine wpAnyE_takeL (preMod _) 11 (v := ?_) rfl (by kernel_rfl) (by kernel_rfl) (by kernel_rfl) (fun _ _ _ h => h) (Or.inl ⟨by rfl, ?_⟩) ?_
      rotate_left; (intro W hW; (try dsimp only at hW); go_simp; try with_reducible rfl)
      (try simp only [Act.put, List.setIfInBounds_toArray, List.set_cons_zero, List.set_cons_succ])
      refine wpAnyE_done (by kernel_rfl) ?_ _
      go_wp2
      go_ret
      exact ⟨rfl, hmw10.trans hm11⟩
    refine AllReadyE.consL rfl (fun K hK => ?_) ?_
    · rw [if_pos (by rfl)]
      go_simp
      refine hK.out _ _ (by first | exact hmE | exact Mod.refl _ _ | exact (Mod.refl _ _).alloc _) ?_
      clear hK
      (try simp only [Act.put, List.setIfInBounds_toArray, List.set_cons_zero, List.set_cons_succ])
      refine wpAnyE_ready (rs := [1]) (by kernel_rfl) (by simp) ?_
      refine AllReadyE.consL rfl (fun K hK => ?_) AllReadyE.nil
      rw [if_pos (by rfl)]
      go_simp
      go_at_call 21
      refine (outDone_any _ F8 (Z ++ [7]) _ (HO.out _ (by simp only [mod_refl_T, mod_drew_T, mod_alloc_T, hm89])) (by simp; have := HZ8.out; omega)).mono ?_
      rintro e' w9 ⟨v9, rfl, hown9, hm9, hf9⟩
      clear hm89
      have hmE := hm9.mono (T := blks (.slice A6 n6 cap6)) (by simp)
      have hm89 : Mod [] w8 w9 := Mod.trans (by simp only [mod_refl_T, mod_drew_T, mod_alloc_T]) hm9
      have hmw9 : Mod [] w w9 := HT8.out.2.2.1.trans hm89
      obtain ⟨gd, hbd⟩ := hown9.bs
      have hcd := conv_all hbd.1 (blks (.slice A6 n6 cap6)) (fun h0 hb => by have h1 := hf9 _ (hbd.2 h0); have h2 := HF8.out _ hb; simp at h1; omega)
      go_wp2_with fail
      refine hK.out _ _ (by first | exact hmE | exact Mod.refl _ _ | exact (Mod.refl _ _).alloc _) ?_
      clear hK
      (try simp only [Act.put, List.setIfInBounds_toArray, List.set_cons_zero, List.set_cons_succ])
      refine wpAnyE_takeL (preMod _) 2 (v := ?_) rfl (by kernel_rfl) (by kernel_rfl) (by kernel_rfl) (fun _ _ _ h => h) (Or.inl ⟨by rfl, ?_⟩) ?_
      rotate_left; (intro W hW; (try dsimp only at hW); (have hcw := hcd W hW; go_simp); try with_reducible rfl)
      (try simp only [Act.put, List.setIfInBounds_toArray, List.set_cons_zero, List.set_cons_succ])
      refine wpAnyE_ready (rs := [5]) (by kernel_rfl) (by simp) ?_
      refine AllReadyE.consL rfl (fun K hK => ?_) AllReadyE.nil
      rw [if_pos (by rfl)]
      first | (refine step_append_bytesK _ _ (by rfl) (HW.out _ (by simp only [mod_refl_T, mod_drew_T, mod_alloc_T, hm89])) (by rfl) (bs_one w9 5 (x := 7) rfl) (by rfl) ?_ (by have := HZ8.out; simp; omega)) | (refine step_append_bytesK _ _ (by rfl) (HW.out _ (by simp only [mod_refl_T, mod_drew_T, mod_alloc_T, hm89])) (by rfl) (RS.mod (bs_one w8.drew 5 (x := 7) rfl) hm9 (by simp)) (by rfl) ?_ (by have := HZ8.out; simp; omega))
      intro A10 n10 cap10 w10 hown10 hn10 hmE HF10
      have hm910 : Mod (blks (.slice A6 n6 cap6)) w9 w10 := Mod.trans (by simp only [mod_refl_T, mod_drew_T, mod_alloc_T]) hmE
      have hmw10 : Mod [] w w10 := hmw9.then hm910 (fun b hb => .inr (HT8.out.2.2.2.2.1 b hb))
      obtain ⟨g10, hb10⟩ := hown10.bs
      have hc10 := conv_all hb10.1 [] (by simp)
      refine hK.out _ _ (by first | exact hmE | exact Mod.refl _ _ | exact (Mod.refl _ _).alloc _) ?_
      clear hK
      (try simp only [Act.put, List.setIfInBounds_toArray, List.set_cons_zero, List.set_cons_succ])
      refine wpAnyE_ready (rs := [6]) (by kernel_rfl) (by simp) ?_
      refine AllReadyE.consL rfl (fun K hK => ?_) AllReadyE.nil
      rw [if_pos (by rfl)]
      have hcw := run_str hb10.1
      go_simp
      refine hK.out _ _ (by first | exact hmE | exact Mod.refl _ _ | exact (Mod.refl _ _).alloc _) ?_
      clear hK
      (try simp only [Act.put, List.setIfInBounds_toArray, List.set_cons_zero, List.set_cons_succ])
      refine wpAnyE_takeL (preMod _) 7 (v := ?_) rfl (by kernel_rfl) (by kernel_rfl) (by kernel_rfl) (fun _ _ _ h => h) (Or.inl ⟨by rfl, ?_⟩) ?_
      rotate_left; (intro W hW; (try dsimp only at hW); go_simp; try with_reducible rfl)
      (try simp only [Act.put, List.setIfInBounds_toArray, List.set_cons_zero, List.set_cons_succ])
      refine wpAnyE_takeL (preMod _) 8 (v := ?_) rfl (by kernel_rfl) (by kernel_rfl) (by kernel_rfl) (fun _ _ _ h => h) (Or.inl ⟨by rfl, ?_⟩) ?_
      rotate_left; (intro W hW; (try dsimp only at hW); go_simp; try with_reducible rfl)
      (try simp only [Act.put, List.setIfInBounds_toArray, List.set_cons_zero, List.set_cons_succ])
      refine wpAnyE_ready (rs := [9]) (by kernel_rfl) (by simp) ?_
      refine AllReadyE.consL rfl (fun K hK => ?_) AllReadyE.nil
      rw [if_pos (by rfl)]
      go_simp
      go_at_call 10
      refine (fixed_any _).mono ?_
      rintro e' w11 ⟨rfl, hm11⟩
      have hmE := hm11.mono (T := blks (.slice A6 n6 cap6)) (by simp)
      go_wp2_with fail
      refine hK.out _ _ (by first | exact hmE | exact Mod.refl _ _ | exact (Mod.refl _ _).alloc _) ?_
      clear hK
      (try simp only [Act.put, List.setIfInBounds_toArray, List.set_cons_zero, List.set_cons_succ])
      refine wpAnyE_takeL (preMod _) 10 (v := ?_) rfl (by kernel_rfl) (by kernel_rfl) (by kernel_rfl) (fun _ _ _ h => h) (Or.inl ⟨by rfl, ?_⟩) ?_
      rotate_left; (intro W hW; (try dsimp only at hW); go_simp; try with_reducible rfl)
      (try simp only [Act.put, List.setIfInBounds_toArray, List.set_cons_zero, List.set_cons_succ])
      refine wpAnyE_takeL (preMod _) 11 (v := ?_) rfl (by kernel_rfl) (by kernel_rfl) (by kernel_rfl) (fun _ _ _ h => h) (Or.inl ⟨by rfl, ?_⟩) ?_
      rotate_left; (intro W hW; (try dsimp only at hW); go_simp; try with_reducible rfl)
      (try simp only [Act.put, List.setIfInBounds_toArray, List.set_cons_zero, List.set_cons_succ])
      refine wpAnyE_done (by kernel_rfl) ?_ _
      go_wp2
      go_ret
      exact ⟨rfl, hmw10.trans hm11⟩
    exact AllReadyE.nil
  · have hne : ¬ (((checkOps l).1 : Nat) : Int) = 0 := by omega
    rw [if_neg h0] at HT5
    obtain ⟨er, her⟩ : ∃ er, (checkOps l).1 = er := ⟨_, rfl⟩
    rw [her] at hne
    rw [her]
    obtain ⟨Z, hZ⟩ : ∃ Z, [] ++ ahead = Z := ⟨_, rfl⟩
    rw [hZ] at HT5
    have HT6 := HT5
    have HZL : Hid (Z.length ≤ 150000000000000) := Lib.hid (by rw [← hZ]; have := HZ.out; simp; omega)
    clear h0 her hZ HT5 HZ HL
    go_wp2_with fail
    obtain ⟨gb, hbs⟩ := HT6.out.bs
    have HO := Lib.hid HT6.out.outM
    have HCV := Lib.hid (conv_all hbs [] (by simp))
    clear hbs
    have hmz := mod_refl_T [] w5
    refine wp_regionE (Mod []) (by kernel_rfl) ?_
    simp only [List.size_toArray, List.length_cons, List.length_nil, Nat.zero_add, Nat.reduceAdd]
    refine wpAnyE_takeL (preMod []) 0 (v := ?_) rfl (by kernel_rfl) (by kernel_rfl) (by kernel_rfl) (fun _ _ _ h => h) (Or.inl ⟨by rfl, ?_⟩) ?_
    rotate_left; (intro W hW; (try dsimp only at hW); go_simp; try with_reducible rfl)
    (try simp only [Act.put, List.setIfInBounds_toArray, List.set_cons_zero, List.set_cons_succ])
    refine wpAnyE_takeL (preMod []) 1 (v := ?_) rfl (by kernel_rfl) (by kernel_rfl) (by kernel_rfl) (fun _ _ _ h => h) (Or.inl ⟨by rfl, ?_⟩) ?_
    rotate_left; (intro W hW; (try dsimp only at hW); go_simp; try with_reducible rfl)
    (try simp only [Act.put, List.setIfInBounds_toArray, List.set_cons_zero, List.set_cons_succ])
    refine wpAnyE_takeL (preMod []) 2 (v := ?_) rfl (by kernel_rfl) (by kernel_rfl) (by kernel_rfl) (fun _ _ _ h => h) (Or.inl ⟨by rfl, ?_⟩) ?_
    rotate_left; (intro W hW; (try dsimp only at hW); go_simp; try with_reducible rfl)
    (try simp only [Act.put, List.setIfInBounds_toArray, List.set_cons_zero, List.set_cons_succ])
    refine wpAnyE_takeL (preMod []) 3 (v := ?_) rfl (by kernel_rfl) (by kernel_rfl) (by kernel_rfl) (fun _ _ _ h => h) (Or.inl ⟨by rfl, ?_⟩) ?_
    rotate_left; (intro W hW; (try dsimp only at hW); go_simp; try with_reducible rfl)
    (try simp only [Act.put, List.setIfInBounds_toArray, List.set_cons_zero, List.set_cons_succ])
    refine wpAnyE_takeL (preMod []) 4 (v := ?_) rfl (by kernel_rfl) (by kernel_rfl) (by kernel_rfl) (fun _ _ _ h => h) (Or.inl ⟨by rfl, ?_⟩) ?_
    rotate_left; (intro W hW; (try dsimp only at hW); go_simp; try with_reducible rfl)
    (try simp only [Act.put, List.setIfInBounds_toArray, List.set_cons_zero, List.set_cons_succ])
    refine wpAnyE_takeL (preMod []) 7 (v := ?_) rfl (by kernel_rfl) (by kernel_rfl) (by kernel_rfl) (fun _ _ _ h => h) (Or.inl ⟨by rfl, ?_⟩) ?_
    rotate_left; (intro W hW; (try dsimp only at hW); go_simp; try with_reducible rfl)
    (try simp only [Act.put, List.setIfInBounds_toArray, List.set_cons_zero, List.set_cons_succ])
    refine wpAnyE_takeL (preMod []) 8 (v := ?_) rfl (by kernel_rfl) (by kernel_rfl) (by kernel_rfl) (fun _ _ _ h => h) (Or.inl ⟨by rfl, ?_⟩) ?_
    rotate_left; (intro W hW; (try dsimp only at hW); (have hWz : Mod [] w5 W := Mod.trans (by simp only [mod_refl_T, mod_drew_T, mod_alloc_T]) hW; have hcw := HCV.out W hWz; go_simp); try with_reducible rfl)
    (try simp only [Act.put, List.setIfInBounds_toArray, List.set_cons_zero, List.set_cons_succ])
    refine wpAnyE_ready (rs := [5]) (by kernel_rfl) (by simp) ?_
    refine AllReadyE.consL rfl (fun K hK => ?_) AllReadyE.nil
    rw [if_pos (by rfl)]
    go_simp
    go_at_call 21
    refine (outDone_any _ F4 Z _ (HO.out _ (by simp only [mod_refl_T, mod_drew_T, mod_alloc_T])) (by have := HZL.out; omega)).mono ?_
    rintro e' w7 ⟨v7, rfl, hown7, hmE, hf7⟩
    have hm67 : Mod [] w5 w7 := (Mod.refl _ _).drew.trans hmE
    have HT7 := Lib.hid (HT6.out.mod hm67)
    obtain ⟨gd, hbd⟩ := hown7.bs
    have hcd := conv_all hbd.1 [] (by simp)
    go_wp2_with fail
    refine hK.out _ _ (by first | exact hmE | exact Mod.refl _ _ | exact (Mod.refl _ _).alloc _) ?_
    clear hK
    (try simp only [Act.put, List.setIfInBounds_toArray, List.set_cons_zero, List.set_cons_succ])
    refine wpAnyE_takeL (preMod []) 6 (v := ?_) rfl (by kernel_rfl) (by kernel_rfl) (by kernel_rfl) (fun _ _ _ h => h) (Or.inl ⟨by rfl, ?_⟩) ?_
    rotate_left; (intro W hW; (try dsimp only at hW); (have hcw := hcd W hW; go_simp); try with_reducible rfl)
    (try simp only [Act.put, List.setIfInBounds_toArray, List.set_cons_zero, List.set_cons_succ])
    refine wpAnyE_takeL (preMod []) 9 (v := ?_) rfl (by kernel_rfl) (by kernel_rfl) (by kernel_rfl) (fun _ _ _ h => h) (Or.inl ⟨by rfl, ?_⟩) ?_
    rotate_left; (intro W hW; (try dsimp only at hW); go_simp; try with_reducible rfl)
    (try simp only [Act.put, List.setIfInBounds_toArray, List.set_cons_zero, List.set_cons_succ])
    refine wpAnyE_takeL (preMod []) 10 (v := ?_) rfl (by kernel_rfl) (by kernel_rfl) (by kernel_rfl) (fun _ _ _ h => h) (Or.inl ⟨by rfl, ?_⟩) ?_
    rotate_left; (intro W hW; (try dsimp only at hW); go_simp; try with_reducible rfl)
    (try simp only [Act.put, List.setIfInBounds_toArray, List.set_cons_zero, List.set_cons_succ])
    refine wpAnyE_done (by kernel_rfl) ?_ _
    clear HO HCV hcd hbd hown7 hf7 hmE hm67 HT6
    go_wp2_with fail
    refine (outByte_any _ F4 Z 7 7 rfl w7 HT7.out.1 (by have := HZL.out; omega)).mono ?_
    rintro e' w8 hp8
    obtain ⟨rfl, F8, hp8'⟩ := HT7.out.out hp8
    have HT8 := Lib.hid hp8'
    clear HT7 hp8 hp8'
    have HO := Lib.hid HT8.out.outM
    have HW := Lib.hid HT8.out.ownM
    have HZ8 : Hid (Z.length + 1 ≤ 180000000000000) := Lib.hid (by have := HZL.out; omega)
    have HF8 : Hid (∀ b ∈ blks (.slice A3 n3 cap3), b < w8.heap.size) := Lib.hid (HT8.out.2.1.lt)
    have hm89 := mod_refl_T [] w8
    go_wp2_with fail
    refine wp_regionE (Mod (blks (.slice A3 n3 cap3))) (by kernel_rfl) ?_
    simp only [List.size_toArray, List.length_cons, List.length_nil, Nat.zero_add, Nat.reduceAdd]
    refine wpAnyE_takeL (preMod _) 0 (v := ?_) rfl (by kernel_rfl) (by kernel_rfl) (by kernel_rfl) (fun _ _ _ h => h) (Or.inl ⟨by rfl, ?_⟩) ?_
    rotate_left; (intro W hW; (try dsimp only at hW); go_simp; try with_reducible rfl)
    (try simp only [Act.put, List.setIfInBounds_toArray, List.set_cons_zero, List.set_cons_succ])
    refine wpAnyE_takeL (preMod _) 3 (v := ?_) rfl (by kernel_rfl) (by kernel_rfl) (by kernel_rfl) (fun _ _ _ h => h) (Or.inl ⟨by rfl, ?_⟩) ?_
    rotate_left; (intro W hW; (try dsimp only at hW); go_simp; try with_reducible rfl)
    (try simp only [Act.put, List.setIfInBounds_toArray, List.set_cons_zero, List.set_cons_succ])
    refine wpAnyE_ready (rs := [1, 4]) (by kernel_rfl) (by simp) ?_
    refine AllReadyE.consL rfl (fun K hK => ?_) ?_
    · rw [if_pos (by rfl)]
      go_simp
      go_at_call 21
      refine (outDone_any _ F8 (Z ++ [7]) _ (HO.out _ (by simp only [mod_refl_T, mod_drew_T, mod_alloc_T, hm89])) (by simp; have := HZ8.out; omega)).mono ?_
      rintro e' w9 ⟨v9, rfl, hown9, hm9, hf9⟩
      clear hm89
      have hmE := hm9.mono (T := blks (.slice A3 n3 cap3)) (by simp)
      have hm89 : Mod [] w8 w9 := Mod.trans (by simp only [mod_refl_T, mod_drew_T, mod_alloc_T]) hm9
      have hmw9 : Mod [] w w9 := HT8.out.2.2.1.trans hm89
      obtain ⟨gd, hbd⟩ := hown9.bs
      have hcd := conv_all hbd.1 (blks (.slice A3 n3 cap3)) (fun h0 hb => by have h1 := hf9 _ (hbd.2 h0); have h2 := HF8.out _ hb; simp at h1; omega)
      go_wp2_with fail
      refine hK.out _ _ (by first | exact hmE | exact Mod.refl _ _ | exact (Mod.refl _ _).alloc _) ?_
      clear hK
      (try simp only [Act.put, List.setIfInBounds_toArray, List.set_cons_zero, List.set_cons_succ])
      refine wpAnyE_takeL (preMod _) 2 (v := ?_) rfl (by kernel_rfl) (by kernel_rfl) (by kernel_rfl) (fun _ _ _ h => h) (Or.inl ⟨by rfl, ?_⟩) ?_
      rotate_left; (intro W hW; (try dsimp only at hW); (have hcw := hcd W hW; go_simp); try with_reducible rfl)
      (try simp only [Act.put, List.setIfInBounds_toArray, List.set_cons_zero, List.set_cons_succ])
      refine wpAnyE_ready (rs := [4]) (by kernel_rfl) (by simp) ?_
      refine AllReadyE.consL rfl (fun K hK => ?_) AllReadyE.nil
      rw [if_pos (by rfl)]
      go_simp
      refine hK.out _ _ (by first | exact hmE | exact Mod.refl _ _ | exact (Mod.refl _ _).alloc _) ?_
      clear hK
      (try simp only [Act.put, List.setIfInBounds_toArray, List.set_cons_zero, List.set_cons_succ])
      refine wpAnyE_ready (rs := [5]) (by kernel_rfl) (by simp) ?_
      refine AllReadyE.consL rfl (fun K hK => ?_) AllReadyE.nil
      rw [if_pos (by rfl)]
      first | (refine step_append_bytesK _ _ (by rfl) (HW.out _ (by simp only [mod_refl_T, mod_drew_T, mod_alloc_T, hm89])) (by rfl) (bs_one w9 5 (x := 7) rfl) (by rfl) ?_ (by have := HZ8.out; simp; omega)) | (refine step_append_bytesK _ _ (by rfl) (HW.out _ (by simp only [mod_refl_T, mod_drew_T, mod_alloc_T, hm89])) (by rfl) (RS.mod (bs_one w8.drew 5 (x := 7) rfl) hm9 (by simp)) (by rfl) ?_ (by have := HZ8.out; simp; omega))
      intro A10 n10 cap10 w10 hown10 hn10 hmE HF10
      have hm910 : Mod (blks (.slice A3 n3 cap3)) w9 w10 := Mod.trans (by simp only [mod_refl_T, mod_drew_T, mod_alloc_T]) hmE
      have hmw10 : Mod [] w w10 := hmw9.then hm910 (fun b hb => .inr (HT8.out.2.2.2.2.1 b hb))
      obtain ⟨g10, hb10⟩ := hown10.bs
      have hc10 := conv_all hb10.1 [] (by simp)
      refine hK.out _ _ (by first | exact hmE | exact Mod.refl _ _ | exact (Mod.refl _ _).alloc _) ?_
      clear hK
      (try simp only [Act.put, List.setIfInBounds_toArray, List.set_cons_zero, List.set_cons_succ])
      refine wpAnyE_ready (rs := [6]) (by kernel_rfl) (by simp) ?_
      refine AllReadyE.consL rfl (fun K hK => ?_) AllReadyE.nil
      rw [if_pos (by rfl)]
      have hcw := run_str hb10.1
      go_simp
      refine hK.out _ _ (by first | exact hmE | exact Mod.refl _ _ | exact (Mod.refl _ _).alloc _) ?_
      clear hK
      (try simp only [Act.put, List.setIfInBounds_toArray, List.set_cons_zero, List.set_cons_succ])
      refine wpAnyE_takeL (preMod _) 7 (v := ?_) rfl (by kernel_rfl) (by kernel_rfl) (by kernel_rfl) (fun _ _ _ h => h) (Or.inl ⟨by rfl, ?_⟩) ?_
      rotate_left; (intro W hW; (try dsimp only at hW); go_simp; try with_reducible rfl)
      (try simp only [Act.put, List.setIfInBounds_toArray, List.set_cons_zero, List.set_cons_succ])
      refine wpAnyE_takeL (preMod _) 8 (v := ?_) rfl (by kernel_rfl) (by kernel_rfl) (by kernel_rfl) (fun _ _ _ h => h) (Or.inl ⟨by rfl, ?_⟩) ?_
      rotate_left; (intro W hW; (try dsimp only at hW); go_simp; try with_reducible rfl)
      (try simp only [Act.put, List.setIfInBounds_toArray, List.set_cons_zero, List.set_cons_succ])
      refine wpAnyE_ready (rs := [9]) (by kernel_rfl) (by simp) ?_
      refine AllReadyE.consL rfl (fun K hK => ?_) AllReadyE.nil
      rw [if_pos (by rfl)]
      go_simp
      go_at_call 10
      refine (fixed_any _).mono ?_
      rintro e' w11 ⟨rfl, hm11⟩
      have hmE := hm11.mono (T := blks (.slice A3 n3 cap3)) (by simp)
      go_wp2_with fail
      refine hK.out _ _ (by first | exact hmE | exact Mod.refl _ _ | exact (Mod.refl _ _).alloc _) ?_
      clear hK
      (try simp only [Act.put, List.setIfInBounds_toArray, List.set_cons_zero, List.set_cons_succ])
      refine wpAnyE_takeL (preMod _) 10 (v := ?_) rfl (by kernel_rfl) (by kernel_rfl) (by kernel_rfl) (fun _ _ _ h => h) (Or.inl ⟨by rfl, ?_⟩) ?_
      rotate_left; (intro W hW; (try dsimp only at hW); go_simp; try with_reducible rfl)
      (try simp only [Act.put, List.setIfInBounds_toArray, List.set_cons_zero, List.set_cons_succ])
      refine wpAnyE_takeL (preMod _) 11 (v := ?_) rfl (by kernel_rfl) (by kernel_rfl) (by kernel_rfl) (fun _ _ _ h => h) (Or.inl ⟨by rfl, ?_⟩) ?_
      rotate_left; (intro W hW; (try dsimp only at hW); go_simp; try with_reducible rfl)
      (try simp only [Act.put, List.setIfInBounds_toArray, List.set_cons_zero, List.set_cons_succ])
      refine wpAnyE_done (by kernel_rfl) ?_ _
      go_wp2
      go_ret
      exact ⟨rfl, hmw10.trans hm11⟩
    refine AllReadyE.consL rfl (fun K hK => ?_) ?_
    · rw [if_pos (by rfl)]
      go_simp
      refine hK.out _ _ (by first | exact hmE | exact Mod.refl _ _ | exact (Mod.refl _ _).alloc _) ?_
      clear hK
      (try simp only [Act.put, List.setIfInBounds_toArray, List.set_cons_zero, List.set_cons_succ])
      refine wpAnyE_ready (rs := [1]) (by kernel_rfl) (by simp) ?_
      refine AllReadyE.consL rfl (fun K hK => ?_) AllReadyE.nil
      rw [if_pos (by rfl)]
      go_simp
      go_at_call 21
      refine (outDone_any _ F8 (Z ++ [7]) _ (HO.out _ (by simp only [mod_refl_T, mod_drew_T, mod_alloc_T, hm89])) (by simp; have := HZ8.out; omega)).mono ?_
      rintro e' w9 ⟨v9, rfl, hown9, hm9, hf9⟩
      clear hm89
      have hmE := hm9.mono (T := blks (.slice A3 n3 cap3)) (by simp)
      have hm89 : Mod [] w8 w9 := Mod.trans (by simp only [mod_refl_T, mod_drew_T, mod_alloc_T]) hm9
      have hmw9 : Mod [] w w9 := HT8.out.2.2.1.trans hm89
      obtain ⟨gd, hbd⟩ := hown9.bs
      have hcd := conv_all hbd.1 (blks (.slice A3 n3 cap3)) (fun h0 hb => by have h1 := hf9 _ (hbd.2 h0); have h2 := HF8.out _ hb; simp at h1; omega)
      go_wp2_with fail
      refine hK.out _ _ (by first | exact hmE | exact Mod.refl _ _ | exact (Mod.refl _ _).alloc _) ?_
      clear hK
      (try simp only [Act.put, List.setIfInBounds_toArray, List.set_cons_zero, List.set_cons_succ])
      refine wpAnyE_takeL (preMod _) 2 (v := ?_) rfl (by kernel_rfl) (by kernel_rfl) (by kernel_rfl) (fun _ _ _ h => h) (Or.inl ⟨by rfl, ?_⟩) ?_
      rotate_left; (intro W hW; (try dsimp only at hW); (have hcw := hcd W hW; go_simp); try with_reducible rfl)
      (try simp only [Act.put, List.setIfInBounds_toArray, List.set_cons_zero, List.set_cons_succ])
      refine wpAnyE_ready (rs := [5]) (by kernel_rfl) (by simp) ?_
      refine AllReadyE.consL rfl (fun K hK => ?_) AllReadyE.nil
      rw [if_pos (by rfl)]
      first | (refine step_append_bytesK _ _ (by rfl) (HW.out _ (by simp only [mod_refl_T, mod_drew_T, mod_alloc_T, hm89])) (by rfl) (bs_one w9 5 (x := 7) rfl) (by rfl) ?_ (by have := HZ8.out; simp; omega)) | (refine step_append_bytesK _ _ (by rfl) (HW.out _ (by simp only [mod_refl_T, mod_drew_T, mod_alloc_T, hm89])) (by rfl) (RS.mod (bs_one w8.drew 5 (x := 7) rfl) hm9 (by simp)) (by rfl) ?_ (by have := HZ8.out; simp; omega))
      intro A10 n10 cap10 w10 hown10 hn10 hmE HF10
      have hm910 : Mod (blks (.slice A3 n3 cap3)) w9 w10 := Mod.trans (by simp only [mod_refl_T, mod_drew_T, mod_alloc_T]) hmE
      have hmw10 : Mod [] w w10 := hmw9.then hm910 (fun b hb => .inr (HT8.out.2.2.2.2.1 b hb))
      obtain ⟨g10, hb10⟩ := hown10.bs
      have hc10 := conv_all hb10.1 [] (by simp)
      refine hK.out _ _ (by first | exact hmE | exact Mod.refl _ _ | exact (Mod.refl _ _).alloc _) ?_
      clear hK
      (try simp only [Act.put, List.setIfInBounds_toArray, List.set_cons_zero, List.set_cons_succ])
      refine wpAnyE_ready (rs := [6]) (by kernel_rfl) (by simp) ?_
      refine AllReadyE.consL rfl (fun K hK => ?_) AllReadyE.nil
      rw [if_pos (by rfl)]
      have hcw := run_str hb10.1
      go_simp
      refine hK.out _ _ (by first | exact hmE | exact Mod.refl _ _ | exact (Mod.refl _ _).alloc _) ?_
      clear hK
      (try simp only [Act.put, List.setIfInBounds_toArray, List.set_cons_zero, List.set_cons_succ])
      refine wpAnyE_takeL (preMod _) 7 (v := ?_) rfl (by kernel_rfl) (by kernel_rfl) (by kernel_rfl) (fun _ _ _ h => h) (Or.inl ⟨by rfl, ?_⟩) ?_
      rotate_left; (intro W hW; (try dsimp only at hW); go_simp; try with_reducible rfl)
      (try simp only [Act.put, List.setIfInBounds_toArray, List.set_cons_zero, List.set_cons_succ])
      refine wpAnyE_takeL (preMod _) 8 (v := ?_) rfl (by kernel_rfl) (by kernel_rfl) (by kernel_rfl) (fun _ _ _ h => h) (Or.inl ⟨by rfl, ?_⟩) ?_
      rotate_left; (intro W hW; (try dsimp only at hW); go_simp; try with_reducible rfl)
      (try simp only [Act.put, List.setIfInBounds_toArray, List.set_cons_zero, List.set_cons_succ])
      refine wpAnyE_ready (rs := [9]) (by kernel_rfl) (by simp) ?_
      refine AllReadyE.consL rfl (fun K hK => ?_) AllReadyE.nil
      rw [if_pos (by rfl)]
      go_simp
      go_at_call 10
      refine (fixed_any _).mono ?_
      rintro e' w11 ⟨rfl, hm11⟩
      have hmE := hm11.mono (T := blks (.slice A3 n3 cap3)) (by simp)
      go_wp2_with fail
      refine hK.out _ _ (by first | exact hmE | exact Mod.refl _ _ | exact (Mod.refl _ _).alloc _) ?_
      clear hK
      (try simp only [Act.put, List.setIfInBounds_toArray, List.set_cons_zero, List.set_cons_succ])
      refine wpAnyE_takeL (preMod _) 10 (v := ?_) rfl (by kernel_rfl) (by kernel_rfl) (by kernel_rfl) (fun _ _ _ h => h) (Or.inl ⟨by rfl, ?_⟩) ?_
      rotate_left; (intro W hW; (try dsimp only at hW); go_simp; try with_reducible rfl)
      (try simp only [Act.put, List.setIfInBounds_toArray, List.set_cons_zero, List.set_cons_succ])
      refine wpAnyE_takeL (preMod _) 11 (v := ?_) rfl (by kernel_rfl) (by kernel_rfl) (by kernel_rfl) (fun _ _ _ h => h) (Or.inl ⟨by rfl, ?_⟩) ?_
      rotate_left; (intro W hW; (try dsimp only at hW); go_simp; try with_reducible rfl)
      (try simp only [Act.put, List.setIfInBounds_toArray, List.set_cons_zero, List.set_cons_succ])
      refine wpAnyE_done (by kernel_rfl) ?_ _
      go_wp2
      go_ret
      exact ⟨rfl, hmw10.trans hm11⟩
    exact AllReadyE.nil
end Go.Proofs.Ytdiplliemdogfaa
