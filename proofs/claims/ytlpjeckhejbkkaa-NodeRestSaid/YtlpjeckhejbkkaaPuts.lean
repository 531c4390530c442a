import Derived.Test.YtlpjeckhejbkkaaRefPuta
import Derived.Test.YtlpjeckhejbkkaaRef3
import Derived.Test.YtlpjeckhejbkkaaReg
set_option linter.unusedVariables false
set_option linter.unusedSimpArgs false
set_option maxRecDepth 20000
set_option maxHeartbeats 1600000
namespace Go.Proofs.Ytlpjeckhejbkkaa
open Go.RowKit

/-- what is laid, and the bytes that it must be, both made by the law -/
def TP (w : World) (p : Nat) (F : List Nat) (xs : Bytes) (s : Value) (ys : Bytes) (wr : World) : Prop :=
  OutB wr p F xs ∧ OwnB wr s ys ∧ Mod [] w wr ∧ (∀ b ∈ F, w.heap.size ≤ b) ∧ (∀ b ∈ blks s, w.heap.size ≤ b) ∧ (∀ b ∈ blks s, b ∉ F)
section
variable {w wr w' : World} {p : Nat} {F : List Nat} {s : Value} {xs ys zs : Bytes} {e : Ending}
theorem TP.mod (h : TP w p F xs s ys wr) (hm : Mod [] wr w') : TP w p F xs s ys w' := by
  obtain ⟨h1, h2, h3, h4, h5, h6⟩ := h
  exact ⟨h1.mod hm (by simp), h2.mod hm (by simp), h3.trans hm, h4, h5, h6⟩
theorem TP.put_ {F' : List Nat} (h : TP w p F xs s ys wr) (h1 : OutB w' p F' zs) (hm : Mod F wr w') (hf : Fresh wr F F') : TP w p F' zs s ys w' := by
  obtain ⟨k1, k2, k3, k4, k5, k6⟩ := h
  refine ⟨h1, k2.mod hm k6, k3.then hm (fun b hb => .inr (k4 b hb)), fun b hb => ?_, k5, fun b hb hb' => ?_⟩
  · rcases hf b hb with h | h
    · exact k4 b h
    · have := k3.size; omega
  · rcases hf b hb' with h | h
    · exact k6 b hb h
    · have := k2.lt b hb; omega
theorem TP.out (h : TP w p F xs s ys wr) (hp : OutP wr p F zs e w') : e = .returned (.tuple #[]) ∧ ∃ F', TP w p F' zs s ys w' := by
  obtain ⟨he, F', h1, h2, h3⟩ := hp
  exact ⟨he, F', h.put_ h1 h2 h3⟩
theorem TP.app_ {s' : Value} (h : TP w p F xs s ys wr) (h1 : OwnB w' s' zs) (hm : Mod (blks s) wr w') (hf : Fresh wr (blks s) (blks s')) : TP w p F xs s' zs w' := by
  obtain ⟨k1, k2, k3, k4, k5, k6⟩ := h
  refine ⟨k1.mod hm (fun b hb hb' => k6 b hb' hb), h1, k3.then hm (fun b hb => .inr (k5 b hb)), k4, fun b hb => ?_, fun b hb hb' => ?_⟩
  · rcases hf b hb with h | h
    · exact k5 b h
    · have := k3.size; omega
  · rcases hf b hb with h | h
    · exact k6 b h hb'
    · have := k1.all b hb'; omega
theorem TP.app (h : TP w p F xs s ys wr) (hp : AppP wr s zs e w') : ∃ A n cap, e = .returned (.slice A n cap) ∧ TP w p F xs (.slice A n cap) zs w' := by
  obtain ⟨A, n, cap, he, h1, h2, h3⟩ := hp
  exact ⟨A, n, cap, he, h.app_ h1 h2 h3⟩
theorem TP.bs (h : TP w p F xs s ys wr) : ∃ g, BS wr g s ys := by
  obtain ⟨g, hg, _⟩ := h.2.1.bs
  exact ⟨g, hg⟩
theorem TP.new {g : Nat} (h : OutB wr p F xs) (hm : Mod [] w wr) (hF : ∀ b ∈ F, w.heap.size ≤ b) : TP w p F xs (.slice none 0 0) [] wr :=
  ⟨h, OwnB.nil _, hm, hF, by simp [blks, Value.ownBlock], by simp [blks, Value.ownBlock]⟩
end
theorem mod_refl_T (S : List Nat) (w : World) : Mod S w w = True := eq_true (Mod.refl S w)
theorem mod_alloc_T {S : List Nat} {a w : World} {o : Obj} (h : Mod S a w) : Mod S a (w.alloc o) = True := eq_true (h.alloc o)
theorem mod_drew_T {S : List Nat} {a w : World} (h : Mod S a w) : Mod S a w.drew = True := eq_true h.drew
theorem mod_drewN_T {S : List Nat} {a w : World} {n : Nat} (h : Mod S a w) : Mod S a (w.drewN n) = True := eq_true (h.drewN n)
attribute [local go_sem] mod_refl_T mod_alloc_T mod_drew_T mod_drewN_T
theorem conv_all {w : World} {g : Nat} {v : Value} {xs : Bytes} (h : BS w g v xs) (S : List Nat) (hg : 0 < xs.length → g ∉ S) : ∀ W, Mod S w W → (convert 27 9 v).run Try.prog W = .ok (.string ⟨xs.toArray⟩) W :=
  fun W hm => run_str (h.mod hm hg)
theorem TP.outM {w wr : World} {p : Nat} {F : List Nat} {s : Value} {xs ys : Bytes} (h : TP w p F xs s ys wr) : ∀ W, Mod [] wr W → OutB W p F xs := fun W hm => h.1.mod hm (by simp)
theorem putOps_length (l : List GOp) (h0 : (checkOps l).1 = 0) (hn : ∀ o ∈ l, o.nums) : (putOps l).length ≤ 307200010 := by
  obtain ⟨hl, hall⟩ := check_all h0
  have h1 := takeOps_length l hl hall hn l.length (Nat.le_refl _)
  rw [List.take_length] at h1
  have h2 := putNum_length10 l.length (by omega)
  unfold putOps
  rw [List.length_append]
  omega
theorem TP.ownM {w wr : World} {p : Nat} {F : List Nat} {s : Value} {xs ys : Bytes} (h : TP w p F xs s ys wr) : ∀ W, Mod [] wr W → OwnB W s ys := fun W hm => h.2.1.mod hm (by simp)
theorem step_append_bytesK {o : Oper} {a : Act} {K : Act → World → Prop} {Q : Exit → Act → World → Prop} {w : World} (s x : Operand)
    (ho : o.op = .call { callee := .builtin .append, args := #[s, x], argTypes := #[27, 27] })
    {v : Value} {xs : Bytes} (hown : OwnB w v xs) (hs : a.eval s = v) {g : Nat} {sv : Value} {ys : Bytes} (hr : BS w g sv ys) (hx : a.eval x = sv)
    (h : ∀ A' n' cap' w', OwnB w' (.slice A' n' cap') (xs ++ ys) → Hid (n' = xs.length + ys.length) → Mod (blks v) w w' → Hid (∀ b ∈ blks (.slice A' n' cap'), b ∈ blks v ∨ b = w.heap.size) → K (a.put o.dst (.slice A' n' cap')) w') (hz : xs.length + ys.length ≤ 200000000000000) :
    Oper.wp Try.prog o a w K Q := by
  obtain ⟨v', w', hrun, h2, h3, h4⟩ := run_append_src (P := Try.prog) w (ty := o.type) etBytes hown (Src.of_rs w Try.underlying27 hr (bv_one ys)) (by unfold maxLen; omega) (by omega)
  obtain ⟨A', cap', rfl, _, _⟩ := own_slice h2
  unfold Oper.wp execOp
  simp only [ho, resolve, invoke, builtin, Sem.run_bind, Sem.run_pure, Result.andThen_ok, List.map_toArray, List.map_cons, List.map_nil, hs, hx, hrun]
  refine h A' _ cap' w' ?_ (Lib.hid rfl) h3 (Lib.hid h4)
  unfold OwnB
  rw [List.length_append, List.map_append]
  exact h2
end Go.Proofs.Ytlpjeckhejbkkaa
