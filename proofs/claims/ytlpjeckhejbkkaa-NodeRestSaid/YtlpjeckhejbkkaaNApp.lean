import Derived.Test.YtlpjeckhejbkkaaNSame
import Derived.Test.YtlpjeckhejbkkaaNAwake
set_option linter.unusedVariables false
set_option linter.unusedSimpArgs false
set_option maxRecDepth 20000
set_option maxHeartbeats 800000
namespace Go.Proofs.Ytlpjeckhejbkkaa
open Go.RowKit

/-! ### append onto a slice without room: new memory -/
theorem run_append_full {P : Program} (w : World) {t tx ty e : TypeId} {sz bytes : Nat} (E : ElemT P t e sz bytes)
    {g : Nat} {A : Option Addr} {n : Nat} {xs : List Value} (hr : RS w sz g (.slice A n n) n xs) {x : Value} {m : Nat} {news : List Value} (hs : Src P sz tx x m news w) (hm : 0 < m)
    (h63 : n + m ≤ maxLen) (hbytes : ((n + m) + (n + m) / 4 + 192) * bytes ≤ 281474976710656) :
    ∃ v' w', (Builtin.append_ #[t, tx] ty #[.slice A n n, x]).run P w = .ok v' w' ∧ w'.ownsRow 0 e sz v' (n + m) (xs ++ news) ∧ Mod [] w w' ∧ (∀ b ∈ blks v', b = w.heap.size) := by
  obtain ⟨i, z, ht, hi, hz, hsz, hby, hzs, h0⟩ := E
  subst hsz
  subst hby
  have hsmall : n + m ≤ 9223372036854775807 := by simp only [maxLen] at h63; omega
  have hlen : (xs ++ news).length = (n + m) * i.size := by rw [List.length_append, hr.1, hs.newsLen, Nat.add_mul]
  have hge := grownCap_ge w (n + m) n e
  have hcm : grownCap w (n + m) n e ≤ maxLen := grownCap_le_maxLen w (n + m) n e h63
  have hfc : (Builtin.firstCells i.size n (.slice A n n)).run P w.drew = .ok xs.toArray w.drew := by
    by_cases hn : 0 < n
    · obtain ⟨off, cap, hv, _, _, _, hc⟩ := hr.at_ hn
      injection hv with hA _ _
      subst hA
      refine run_firstCells_some w.drew i.size n _ n n xs hr.1 (fun j u hu => ?_)
      have := hc j u hu
      rw [Addr.add_mid]
      exact this
    · obtain rfl : n = 0 := by omega
      have hx : xs = [] := List.eq_nil_of_length_eq_zero (by simpa using hr.1)
      subst hx
      cases A with
      | none => exact run_firstCells_none w.drew i.size 0 0 0
      | some a => exact run_firstCells_some w.drew i.size 0 a 0 0 [] (by simp) (by simp)
  have hrun := run_append_grow_src (P := P) w t tx ty e i z ht hi hz A n n xs hfc x m news hs (by omega) (by omega) (growslice_fits_wide (by omega) hbytes)
  refine ⟨_, _, hrun, ⟨hlen, .inr ⟨w.heap.size, _, _, rfl, Nat.zero_le _, heap_alloc_new w.drew _, hge, hcm, ?_, ?_⟩⟩, (Mod.refl _ w).drew.alloc _, ?_⟩
  · simp only [Array.size_append, List.size_toArray, size_zeroCells, hzs, hlen, ← Nat.add_mul]
    congr 1
    omega
  · simp only [Array.toList_append]
    rw [← hlen]
    exact List.take_left
  · intro b hb
    simp only [blks, Value.ownBlock, Option.toList_some, List.mem_singleton] at hb
    exact hb
theorem wpList_append_full_bytes {ops : Array Oper} {rest : List Oper} {o : Oper} {a : Act} {Q : Exit → Act → World → Prop} {w : World} (hgd : Region.wanted o (yielded ops a.tmps) = true) (s x : Operand)
    (ho : o.op = .call { callee := .builtin .append, args := #[s, x], argTypes := #[27, 27] })
    {A : Option Addr} {g0 : Nat} {xs : Bytes} (hown : BS w g0 (.slice A xs.length xs.length) xs) (hs : a.eval s = .slice A xs.length xs.length) {g : Nat} {sv : Value} {ys : Bytes} (hr : BS w g sv ys) (hx : a.eval x = sv) (h0 : 0 < ys.length)
    (h : ∀ A' n' cap' w', OwnB w' (.slice A' n' cap') (xs ++ ys) → Hid (n' = xs.length + ys.length) → Mod [] w w' → Hid (∀ b ∈ blks (.slice A' n' cap'), b = w.heap.size) → wpList Try.prog ops Q rest (a.put o.dst (.slice A' n' cap')) w') (hz : xs.length + ys.length ≤ 200000000000000) :
    wpList Try.prog ops Q (o :: rest) a w := by
  refine BigFrame.wpList_want hgd fun K hK => ?_
  obtain ⟨v', w', hrun, h2, h3, h4⟩ := run_append_full (P := Try.prog) w (ty := o.type) etBytes hown (Src.of_rs w Try.underlying27 hr (bv_one ys)) h0 (by unfold maxLen; omega) (by omega)
  obtain ⟨A', cap', rfl, _, _⟩ := own_slice h2
  unfold Oper.wp execOp
  simp only [ho, resolve, invoke, builtin, Sem.run_bind, Sem.run_pure, Result.andThen_ok, List.map_toArray, List.map_cons, List.map_nil, hs, hx, hrun]
  refine hK _ _ (h A' _ cap' w' ?_ (Lib.hid rfl) h3 (Lib.hid h4))
  unfold OwnB
  rw [List.length_append, List.map_append]
  exact h2
end Go.Proofs.Ytlpjeckhejbkkaa
