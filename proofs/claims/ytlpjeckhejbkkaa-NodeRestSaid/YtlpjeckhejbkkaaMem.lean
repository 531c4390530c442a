import Derived.WalkKit
import Derived.WalkSpells
import Derived.WalkLawsBesides
import Derived.Maps.AppendAt
import Derived.Deep.DeepAppendWide
import Derived.Deep.Draws
import Derived.Deep.QuietTactic
import Derived.BigQuiet
import Derived.Lib.Hide
import Derived.Deep.MidRow
import Derived.Laws.StructEq
import Derived.Stop.BytesEq
import Derived.Deep.AppendSrc
import Derived.Deep.LoopGhost
import Derived.Deep.RegionHeld3
import Derived.Deep.RegionLaw
import Derived.Deep.RegionWith
import Derived.StillTailTactics
import Derived.Deep.DeepCutAuto
import Derived.Deep.DeepFit
set_option linter.unusedVariables false
set_option linter.unusedSimpArgs false
namespace Go.Proofs.Ytlpjeckhejbkkaa
open Go.RowKit

/-! ### what a call may change: only the blocks of S, and what is new -/
structure Mod (S : List Nat) (w w' : World) : Prop where
  os : w'.os = w.os
  tape : w'.tape = w.tape
  output : w'.output = w.output
  size : w.heap.size ≤ w'.heap.size
  block : ∀ i, i < w.heap.size → i ∉ S → w'.heap[i]? = w.heap[i]?
section
variable {S T : List Nat} {a b c w w' : World}
theorem Mod.refl (S : List Nat) (w : World) : Mod S w w := ⟨rfl, rfl, rfl, Nat.le_refl _, fun _ _ _ => rfl⟩
theorem Mod.trans (h : Mod S a b) (k : Mod S b c) : Mod S a c :=
  ⟨k.os.trans h.os, k.tape.trans h.tape, k.output.trans h.output, Nat.le_trans h.size k.size, fun i hi hn => (k.block i (Nat.lt_of_lt_of_le hi h.size) hn).trans (h.block i hi hn)⟩
theorem Mod.mono (h : Mod S a b) (hs : ∀ i, i ∈ S → i < a.heap.size → i ∈ T) : Mod T a b :=
  ⟨h.os, h.tape, h.output, h.size, fun i hi hn => h.block i hi (fun hm => hn (hs i hm hi))⟩
/-- a second step may change what is new since the first one began -/
theorem Mod.then (h : Mod S a b) (k : Mod T b c) (ht : ∀ i, i ∈ T → i ∈ S ∨ a.heap.size ≤ i) : Mod S a c :=
  ⟨k.os.trans h.os, k.tape.trans h.tape, k.output.trans h.output, Nat.le_trans h.size k.size, fun i hi hn =>
    (k.block i (Nat.lt_of_lt_of_le hi h.size) (fun hm => by
      rcases ht i hm with h1 | h1
      · exact hn h1
      · omega)).trans (h.block i hi hn)⟩
theorem Mod.drewN (h : Mod S a w) (n : Nat) : Mod S a (w.drewN n) := ⟨h.os, h.tape, h.output, h.size, h.block⟩
theorem Mod.drew (h : Mod S a w) : Mod S a w.drew := ⟨h.os, h.tape, h.output, h.size, h.block⟩
theorem Mod.alloc (h : Mod S a w) (o : Obj) : Mod S a (w.alloc o) :=
  ⟨h.os, h.tape, h.output, Nat.le_trans h.size (by simp), fun i hi hne => (Below.heap_alloc w o i (Nat.lt_of_lt_of_le hi h.size)).trans (h.block i hi hne)⟩
theorem Mod.setCell (h : Mod S a w) (p : Addr) (hp : p.block ∈ S ∨ a.heap.size ≤ p.block) (u : Value) : Mod S a (w.setCell p u) :=
  ⟨h.os, h.tape, h.output, by simpa [World.setCell] using h.size, fun i hi hne => (Below.heap_setCell w p u i (by
    rintro rfl
    rcases hp with hp | hp
    · exact hne hp
    · omega)).trans (h.block i hi hne)⟩
theorem Mod.below (h : Mod S a b) (hs : ∀ i, i ∈ S → a.heap.size ≤ i) : Below a.heap.size a b :=
  ⟨h.os, h.tape, h.output, h.size, fun i hi => h.block i hi (fun hm => by have := hs i hm; omega)⟩
theorem Mod.of_below (h : Below a.heap.size a b) (S : List Nat) : Mod S a b :=
  ⟨h.os, h.tape, h.output, h.size, fun i hi _ => h.block i hi⟩
theorem Mod.of_drewN (S : List Nat) (w : World) (n : Nat) : Mod S w (w.drewN n) := (Mod.refl S w).drewN n
theorem Mod.cell (h : Mod S a b) {p : Addr} (hp : p.block < a.heap.size) (hn : p.block ∉ S) : b.cell? p = a.cell? p :=
  World.cell?_of_block (h.block p.block hp hn)
end

/-! ### a block that is known whole -/
def Blk (w : World) (g : Nat) (t : TypeId) (cs : Array Value) : Prop := w.heap[g]? = some (.cells cs t (0, 0))
section
variable {w w' : World} {g : Nat} {t : TypeId} {cs : Array Value} {S : List Nat}
theorem Blk.lt (h : Blk w g t cs) : g < w.heap.size := by
  rcases Nat.lt_or_ge g w.heap.size with hlt | hge
  · exact hlt
  · unfold Blk at h; rw [Array.getElem?_eq_none hge] at h; cases h
theorem Blk.cell (h : Blk w g t cs) (i : Nat) : w.cell? ⟨g, i, none⟩ = cs[i]? := cell_of_row w g i cs t (0, 0) h
theorem Blk.frozen (h : Blk w g t cs) (i : Nat) : w.frozen? ⟨g, i, none⟩ = false := by
  unfold Blk at h
  simp [World.frozen?, h]
theorem Blk.new (w : World) (t : TypeId) (cs : Array Value) : Blk (w.alloc (.cells cs t)) w.heap.size t cs := heap_alloc_new w _
theorem Blk.drew (h : Blk w g t cs) : Blk w.drew g t cs := h
theorem Blk.drewN (h : Blk w g t cs) (n : Nat) : Blk (w.drewN n) g t cs := h
theorem Blk.alloc (h : Blk w g t cs) (o : Obj) : Blk (w.alloc o) g t cs := (Below.heap_alloc w o g h.lt).trans h
theorem Blk.set_ (h : Blk w g t cs) (i : Nat) (u : Value) : Blk (w.setCell ⟨g, i, none⟩ u) g t (cs.setIfInBounds i u) := by
  unfold Blk at h ⊢
  simp [World.setCell, Array.getElem?_modify, h]
theorem Blk.far (h : Blk w g t cs) {p : Addr} (hp : g ≠ p.block) (u : Value) : Blk (w.setCell p u) g t cs := (Below.heap_setCell w p u g hp).trans h
theorem Blk.mod (h : Blk w g t cs) (hb : Mod S w w') (hg : g ∉ S) : Blk w' g t cs := (hb.block g h.lt hg).trans h
theorem Blk.ne_ {g' : Nat} {t' : TypeId} {cs' : Array Value} (h : Blk w g t cs) (h' : Blk w g' t' cs') (hne : t ≠ t') : g ≠ g' := by
  rintro rfl
  unfold Blk at h h'
  rw [h] at h'
  injection h' with h'
  injection h' with _ ht
  exact hne ht
end

/-! ### a slice that reads as a list of cells; g: its block -/
def RS (w : World) (sz g : Nat) (v : Value) (n : Nat) (cs : List Value) : Prop :=
  cs.length = n * sz ∧ ∃ (A : Option Addr) (cap : Nat), v = .slice A n cap ∧ n ≤ cap ∧ cap ≤ maxLen ∧
    (0 < n → ∃ off, A = some ⟨g, off, none⟩ ∧ g < w.heap.size ∧ ∀ (i : Nat) (u : Value), cs[i]? = some u → w.cell? ⟨g, off + i, none⟩ = some u)
section
variable {w w' : World} {sz g n : Nat} {v : Value} {cs : List Value} {S : List Nat}
theorem RS.mod (h : RS w sz g v n cs) (hm : Mod S w w') (hg : 0 < n → g ∉ S) : RS w' sz g v n cs := by
  obtain ⟨hl, A, cap, hv, hn, hc, hf⟩ := h
  refine ⟨hl, A, cap, hv, hn, hc, fun h0 => ?_⟩
  obtain ⟨off, hA, hlt, hcell⟩ := hf h0
  exact ⟨off, hA, Nat.lt_of_lt_of_le hlt hm.size, fun i u hu => (hm.cell (p := ⟨g, off + i, none⟩) hlt (hg h0)).trans (hcell i u hu)⟩
theorem RS.drewN (h : RS w sz g v n cs) (k : Nat) : RS (w.drewN k) sz g v n cs := h
theorem RS.nil (w : World) (sz g : Nat) : RS w sz g (.slice none 0 0) 0 [] := ⟨by simp, none, 0, rfl, Nat.le_refl _, by decide, fun h => absurd h (by omega)⟩
theorem RS.of_own {e : TypeId} {base : Nat} (h : w.ownsRow base e sz v n cs) : ∃ g, RS w sz g v n cs ∧ (0 < n → v.ownBlock = some g) := by
  obtain ⟨hl, h | ⟨g, cap, cur, rfl, _, hg, hnc, hcm, hcs, ht⟩⟩ := h
  · obtain ⟨rfl, rfl⟩ := h
    obtain rfl : cs = [] := List.eq_nil_of_length_eq_zero (by simpa using hl)
    exact ⟨0, RS.nil w sz 0, fun h => absurd h (by omega)⟩
  · refine ⟨g, ⟨hl, _, cap, rfl, hnc, hcm, fun _ => ⟨0, rfl, (Array.getElem?_eq_some_iff.1 hg).1, fun i u hu => ?_⟩⟩, fun _ => rfl⟩
    rw [Nat.zero_add, cell_of_row w g i cur e (0, 0) hg, ← Array.getElem?_toList]
    rw [← ht, List.getElem?_take] at hu
    split at hu
    · exact hu
    · cases hu
theorem RS.len (h : RS w sz g v n cs) : cs.length = n * sz := h.1
/-- the value, opened -/
theorem RS.val (h : RS w sz g v n cs) : ∃ (A : Option Addr) (cap : Nat), v = .slice A n cap ∧ n ≤ cap ∧ cap ≤ maxLen := by
  obtain ⟨_, A, cap, hv, hn, hc, _⟩ := h
  exact ⟨A, cap, hv, hn, hc⟩
theorem RS.at_ (h : RS w sz g v n cs) (h0 : 0 < n) : ∃ (off cap : Nat), v = .slice (some ⟨g, off, none⟩) n cap ∧ n ≤ cap ∧ cap ≤ maxLen ∧ g < w.heap.size ∧ ∀ (i : Nat) (u : Value), cs[i]? = some u → w.cell? ⟨g, off + i, none⟩ = some u := by
  obtain ⟨_, A, cap, hv, hn, hc, hf⟩ := h
  obtain ⟨off, rfl, hlt, hcell⟩ := hf h0
  exact ⟨off, cap, hv, hn, hc, hlt, hcell⟩
end

theorem RS.cut {w : World} {sz g L cap lo n c' : Nat} {A A' : Option Addr} {cs : List Value} (h : RS w sz g (.slice A L cap) L cs) (hlo : lo + n ≤ L) (hn : n ≤ c') (hc : c' ≤ maxLen)
    (hA : 0 < n → A' = A.map (·.add (lo * sz))) : RS w sz g (.slice A' n c') n ((cs.drop (lo * sz)).take (n * sz)) := by
  have hlen : (lo + n) * sz ≤ L * sz := Nat.mul_le_mul_right _ hlo
  rw [Nat.add_mul] at hlen
  refine ⟨?_, A', c', rfl, hn, hc, fun h0 => ?_⟩
  · rw [List.length_take, List.length_drop, h.1]; omega
  · obtain ⟨_, A0, cap0, hv, _, _, hf⟩ := h
    obtain ⟨off, hA0, hlt, hcell⟩ := hf (by omega)
    injection hv with h1 _ _
    subst h1
    subst hA0
    refine ⟨off + lo * sz, ?_, hlt, fun i u hu => ?_⟩
    · rw [hA h0]
      simp only [Option.map_some, Addr.add]
      split <;> simp_all
    · rw [List.getElem?_take] at hu
      split at hu
      · rw [List.getElem?_drop] at hu
        rw [Nat.add_assoc]
        exact hcell _ _ hu
      · cases hu
theorem RS.cut1 {w : World} {g L cap lo n c' : Nat} {A A' : Option Addr} {cs : List Value} (h : RS w 1 g (.slice A L cap) L cs) (hlo : lo + n ≤ L) (hn : n ≤ c') (hc : c' ≤ maxLen)
    (hA : 0 < n → A' = A.map (·.add lo)) : RS w 1 g (.slice A' n c') n ((cs.drop lo).take n) := by
  have := h.cut (lo := lo) (n := n) (c' := c') (A' := A') hlo hn hc (by simpa using hA)
  simpa using this

theorem Mod.setRow {S : List Nat} {a w : World} (h : Mod S a w) (g : Nat) (cs : Array Value) (hp : g ∈ S ∨ a.heap.size ≤ g) : Mod S a (w.setRow g cs) :=
  ⟨h.os, h.tape, h.output, by simpa using h.size, fun i hi hne => (setRow_other w g i cs (by
    rintro rfl
    rcases hp with hp | hp
    · exact hne hp
    · omega)).trans (h.block i hi hne)⟩
/-! ### append onto a slice of the call's own -/
/-- what the table says of a slice type t with elements e of sz cells and so many bytes -/
def ElemT (P : Program) (t e : TypeId) (sz bytes : Nat) : Prop :=
  ∃ (i : TypeInfo) (z : Value), P.underlying t = some (.slice e) ∧ P.info? e = some i ∧ i.zero = some z ∧ i.size = sz ∧ i.bytes = bytes ∧ z.cells.size = sz ∧ 0 < sz
def blks (v : Value) : List Nat := v.ownBlock.toList
theorem Mod.of_grown {w w' : World} {row : Option Nat} (h : w.grownBy w' row) : Mod row.toList w w' :=
  ⟨h.os, h.tape, h.output, h.size, fun i hi hn => h.block i hi (by rintro rfl; simp at hn)⟩
section
variable {P : Program} (w : World)
theorem setCells_eq_setRow (P : Program) (g o : Nat) (vs : List Value) (cur : Array Value) (t : TypeId) (hg : w.heap[g]? = some (.cells cur t (0, 0))) (hfit : o + vs.length ≤ cur.size) (h1 : ∀ u ∈ vs, u.oneCell' = true) :
    w.setCells g o vs = w.setRow g (cur.toList.take o ++ vs ++ cur.toList.drop (o + vs.length)).toArray := by
  have h2 := run_storeCells_at P g o t vs 0 cur w hg (by simpa using hfit) h1
  have h3 := run_storeCells_cells (P := P) g o vs 0 w (fun j hj => by rw [cell_of_row w g _ cur t (0, 0) hg, Array.getElem?_eq_getElem (by omega)]; rfl) (fun j hj => frozen_of_row w g _ cur t hg) h1
  simp only [Nat.add_zero] at h2 h3
  rw [h2] at h3
  injection h3 with _ h3
  exact h3.symm
theorem run_append_src {t tx ty e : TypeId} {sz bytes : Nat} (E : ElemT P t e sz bytes)
    {v : Value} {n : Nat} {xs : List Value} (hown : w.ownsRow 0 e sz v n xs) {x : Value} {m : Nat} {news : List Value} (hs : Src P sz tx x m news w)
    (h63 : n + m ≤ maxLen) (hbytes : ((n + m) + (n + m) / 4 + 192) * bytes ≤ 281474976710656) :
    ∃ v' w', (Builtin.append_ #[t, tx] ty #[v, x]).run P w = .ok v' w' ∧ w'.ownsRow 0 e sz v' (n + m) (xs ++ news) ∧ Mod (blks v) w w' ∧
      (∀ b ∈ blks v', b ∈ blks v ∨ b = w.heap.size) := by
  obtain ⟨i, z, ht, hi, hz, hsz, hby, hzs, h0⟩ := E
  subst hsz
  subst hby
  have hsmall : n + m ≤ 9223372036854775807 := by simp only [maxLen] at h63; omega
  have hlen : (xs ++ news).length = (n + m) * i.size := by rw [List.length_append, hown.1, hs.newsLen, Nat.add_mul]
  have grown : ∀ (old : Nat), old < n + m →
      (w.drew.alloc (.cells ((xs ++ news).toArray ++ Builtin.zeroCells z.cells (grownCap w (n + m) old e - (n + m))) e)).ownsRow 0 e i.size
        (.slice (some ⟨w.heap.size, 0, none⟩) (n + m) (grownCap w (n + m) old e)) (n + m) (xs ++ news) ∧
      Mod (blks v) w (w.drew.alloc (.cells ((xs ++ news).toArray ++ Builtin.zeroCells z.cells (grownCap w (n + m) old e - (n + m))) e)) := by
    intro old ho
    have hge := grownCap_ge w (n + m) old e
    have hcm : grownCap w (n + m) old e ≤ maxLen := grownCap_le_maxLen w (n + m) old e h63
    refine ⟨⟨hlen, .inr ⟨w.heap.size, _, _, rfl, Nat.zero_le _, heap_alloc_new w.drew _, hge, hcm, ?_, ?_⟩⟩, (Mod.refl _ w).drew.alloc _⟩
    · simp only [Array.size_append, List.size_toArray, size_zeroCells, hzs, hlen, ← Nat.add_mul]
      congr 1
      omega
    · simp only [Array.toList_append]
      rw [← hlen]
      exact List.take_left
  have hfresh : ∀ (old : Nat), ∀ b ∈ blks (.slice (some ⟨w.heap.size, 0, none⟩) (n + m) (grownCap w (n + m) old e)), b ∈ blks v ∨ b = w.heap.size := by
    intro old b hb
    simp only [blks, Value.ownBlock, Option.toList_some, List.mem_singleton] at hb
    exact .inr hb
  rcases hown.2 with ⟨rfl, rfl⟩ | ⟨g, cap, cur, rfl, hbg, hg, hnc, hcm, hcs, htake⟩
  · have hx : xs = [] := List.eq_nil_of_length_eq_zero (by simpa using hown.1)
    subst hx
    by_cases hm : m = 0
    · subst hm
      have hn : news = [] := List.eq_nil_of_length_eq_zero (by simpa using hs.newsLen)
      subst hn
      refine ⟨.slice none 0 0, w, ?_, World.ownsRow_nil w 0 e i.size, Mod.refl _ w, fun b hb => .inl hb⟩
      have hc := hs.cells
      rcases hs.kind with ⟨e', hk⟩ | hk <;> simp [Builtin.append_, run_underlying ht, run_underlying hk, sizeOf, typeInfo, hi, hs.len, hc]
    · have hr := run_append_grow_src (P := P) w t tx ty e i z ht hi hz none 0 0 [] (run_firstCells_none w.drew i.size 0 0 0) x m news hs (by omega) (by omega) (growslice_fits_wide (by omega) hbytes)
      have hgr := grown 0 (by omega)
      simp only [Nat.zero_add, List.nil_append] at hgr hr ⊢
      exact ⟨_, _, hr, hgr.1, hgr.2, by simpa using hfresh 0⟩
  · by_cases hroom : n + m ≤ cap
    · have hfit : n * i.size + news.length ≤ cur.size := by rw [hs.newsLen, hcs, ← Nat.add_mul]; exact Nat.mul_le_mul_right _ hroom
      have hr := run_append_room_src (P := P) w t tx ty e i ht hi g 0 n cap x m news hs hroom
        (fun j hj => by rw [cell_of_row w g _ cur e (0, 0) hg]; rw [Array.getElem?_eq_getElem (by omega)]; rfl) (fun j hj => frozen_of_row w g _ cur e hg)
      rw [Nat.zero_add, setCells_eq_setRow w P g (n * i.size) news cur e hg hfit hs.one] at hr
      refine ⟨_, _, hr, ⟨hlen, .inr ⟨g, cap, _, rfl, Nat.zero_le _, setRow_heap w g cur _ e _ hg, hroom, hcm, ?_, ?_⟩⟩, (Mod.refl _ w).setRow g _ (.inl (by simp [blks, Value.ownBlock])), fun b hb => .inl hb⟩
      · simp only [List.size_toArray, List.length_append, List.length_take, List.length_drop, Array.length_toList]
        omega
      · rw [htake, ← hlen]
        exact List.take_left
    · have holds : ∀ j u, xs[j]? = some u → w.cell? ((⟨g, 0, none⟩ : Addr).add j) = some u := hown.cells (g := g) rfl
      have hr := run_append_grow_src (P := P) w t tx ty e i z ht hi hz (some ⟨g, 0, none⟩) n cap xs (run_firstCells_some w.drew i.size n ⟨g, 0, none⟩ n cap xs hown.1 (by simpa using holds)) x m news hs (by omega) (by omega) (growslice_fits_wide (by omega) hbytes)
      have hgr := grown cap (by omega)
      exact ⟨_, _, hr, hgr.1, hgr.2, hfresh cap⟩
/-- what is appended: a slice that reads as cells -/
theorem Src.of_rs {t e : TypeId} (ht : P.underlying t = some (.slice e)) {sz g : Nat} {sv : Value} {m : Nat} {news : List Value} (hr : RS w sz g sv m news) (h1 : ∀ u ∈ news, u.oneCell' = true) : Src P sz t sv m news w := by
  obtain ⟨hl, A, c, rfl, hmc, hcm, hf⟩ := hr
  rcases A with _ | a
  · have hm0 : m = 0 := by
      rcases Nat.eq_zero_or_pos m with h | h
      · exact h
      · obtain ⟨off, hA, _⟩ := hf h; cases hA
    subst hm0
    obtain rfl : news = [] := List.eq_nil_of_length_eq_zero (by simpa using hl)
    exact Src.ofNil w ht c
  · refine Src.ofSlice w ht a m c news hl (fun j u hu => ?_) h1
    have hm0 : 0 < m := by
      rcases Nat.eq_zero_or_pos m with h | h
      · subst h
        obtain rfl : news = [] := List.eq_nil_of_length_eq_zero (by simpa using hl)
        simp at hu
      · exact h
    obtain ⟨off, hA, _, hcell⟩ := hf hm0
    injection hA with hA
    subst hA
    have := hcell j u hu
    unfold Addr.add
    split
    · rename_i h; subst h; simpa using this
    · exact this
theorem own_slice {w : World} {base : Nat} {e : TypeId} {sz : Nat} {v : Value} {n : Nat} {xs : List Value} (h : w.ownsRow base e sz v n xs) : ∃ A cap, v = .slice A n cap ∧ n ≤ cap ∧ cap ≤ maxLen := by
  rcases h.2 with ⟨rfl, rfl⟩ | ⟨g, cap, cur, rfl, _, _, h1, h2, _⟩
  · exact ⟨none, 0, rfl, Nat.le_refl _, by decide⟩
  · exact ⟨_, cap, rfl, h1, h2⟩
/-- AT THE OPERATION -/
theorem wpList_append_src {ops : Array Oper} {rest : List Oper} {o : Oper} {a : Act} {Q : Exit → Act → World → Prop} {w : World} {t tx e : TypeId} {sz bytes : Nat} (E : ElemT P t e sz bytes) (hgd : Region.wanted o (yielded ops a.tmps) = true) (s x : Operand)
    (ho : o.op = .call { callee := .builtin .append, args := #[s, x], argTypes := #[t, tx] })
    {v : Value} {n : Nat} {xs : List Value} (hown : w.ownsRow 0 e sz v n xs) (hs : a.eval s = v) {sv : Value} {m : Nat} {news : List Value} (hr : Src P sz tx sv m news w) (hx : a.eval x = sv)
    (h63 : n + m ≤ maxLen) (hbytes : ((n + m) + (n + m) / 4 + 192) * bytes ≤ 281474976710656)
    (h : ∀ A' cap' w', w'.ownsRow 0 e sz (.slice A' (n + m) cap') (n + m) (xs ++ news) → Mod (blks v) w w' → (∀ b ∈ blks (.slice A' (n + m) cap'), b ∈ blks v ∨ b = w.heap.size) → wpList P ops Q rest (a.put o.dst (.slice A' (n + m) cap')) w') :
    wpList P ops Q (o :: rest) a w := by
  refine BigFrame.wpList_want hgd fun K hK => ?_
  obtain ⟨v', w', hrun, h2, h3, h4⟩ := run_append_src (P := P) w (ty := o.type) E hown hr h63 hbytes
  obtain ⟨A', cap', rfl, _, _⟩ := own_slice h2
  unfold Oper.wp execOp
  simp only [ho, resolve, invoke, builtin, Sem.run_bind, Sem.run_pure, Result.andThen_ok, List.map_toArray, List.map_cons, List.map_nil, hs, hx, hrun]
  exact hK _ _ (h A' cap' w' h2 h3 h4)
theorem step_append_src {ops : Array Oper} {o : Oper} {a : Act} {K : Act → World → Prop} {Q : Exit → Act → World → Prop} {G : Prop} {w : World} {t tx e : TypeId} {sz bytes : Nat} (E : ElemT P t e sz bytes) (hgd : Region.wanted o (yielded ops a.tmps) = true) (s x : Operand)
    (ho : o.op = .call { callee := .builtin .append, args := #[s, x], argTypes := #[t, tx] })
    {v : Value} {n : Nat} {xs : List Value} (hown : w.ownsRow 0 e sz v n xs) (hs : a.eval s = v) {sv : Value} {m : Nat} {news : List Value} (hr : Src P sz tx sv m news w) (hx : a.eval x = sv)
    (h63 : n + m ≤ maxLen) (hbytes : ((n + m) + (n + m) / 4 + 192) * bytes ≤ 281474976710656)
    (h : ∀ A' cap' w', w'.ownsRow 0 e sz (.slice A' (n + m) cap') (n + m) (xs ++ news) → Mod (blks v) w w' → (∀ b ∈ blks (.slice A' (n + m) cap'), b ∈ blks v ∨ b = w.heap.size) → K (a.put o.dst (.slice A' (n + m) cap')) w') :
    if Region.wanted o (yielded ops a.tmps) = true then Oper.wp P o a w K Q else G := by
  rw [if_pos hgd]
  obtain ⟨v', w', hrun, h2, h3, h4⟩ := run_append_src (P := P) w (ty := o.type) E hown hr h63 hbytes
  obtain ⟨A', cap', rfl, _, _⟩ := own_slice h2
  unfold Oper.wp execOp
  simp only [ho, resolve, invoke, builtin, Sem.run_bind, Sem.run_pure, Result.andThen_ok, List.map_toArray, List.map_cons, List.map_nil, hs, hx, hrun]
  exact h A' cap' w' h2 h3 h4
theorem ElemT.under {P : Program} {t e : TypeId} {sz bytes : Nat} (E : ElemT P t e sz bytes) : P.underlying t = some (.slice e) := by
  obtain ⟨i, z, ht, _⟩ := E
  exact ht
theorem wpList_append_rs {ops : Array Oper} {rest : List Oper} {o : Oper} {a : Act} {Q : Exit → Act → World → Prop} {w : World} {t e : TypeId} {sz bytes : Nat} (E : ElemT P t e sz bytes) (hgd : Region.wanted o (yielded ops a.tmps) = true) (s x : Operand)
    (ho : o.op = .call { callee := .builtin .append, args := #[s, x], argTypes := #[t, t] })
    {v : Value} {n : Nat} {xs : List Value} (hown : w.ownsRow 0 e sz v n xs) (hs : a.eval s = v) {g : Nat} {sv : Value} {m : Nat} {news : List Value} (hr : RS w sz g sv m news) (hx : a.eval x = sv) (h1 : ∀ u ∈ news, u.oneCell' = true)
    (h63 : n + m ≤ maxLen) (hbytes : ((n + m) + (n + m) / 4 + 192) * bytes ≤ 281474976710656)
    (h : ∀ A' cap' w', w'.ownsRow 0 e sz (.slice A' (n + m) cap') (n + m) (xs ++ news) → Mod (blks v) w w' → (∀ b ∈ blks (.slice A' (n + m) cap'), b ∈ blks v ∨ b = w.heap.size) → wpList P ops Q rest (a.put o.dst (.slice A' (n + m) cap')) w') :
    wpList P ops Q (o :: rest) a w :=
  wpList_append_src E hgd s x ho hown hs (Src.of_rs w E.under hr h1) hx h63 hbytes h
end

/-! ### an owned row is kept -/
section
variable {w w' : World} {e : TypeId} {sz n : Nat} {v : Value} {xs : List Value} {S : List Nat}
theorem own_mod (h : w.ownsRow 0 e sz v n xs) (hm : Mod S w w') (hd : ∀ b ∈ blks v, b ∉ S) : w'.ownsRow 0 e sz v n xs := by
  refine ⟨h.1, ?_⟩
  rcases h.2 with hn | ⟨g, cap, cur, rfl, hb, hgg, rest⟩
  · exact .inl hn
  · refine .inr ⟨g, cap, cur, rfl, hb, ?_, rest⟩
    rw [hm.block g (Array.getElem?_eq_some_iff.1 hgg).1 (hd g (by simp [blks, Value.ownBlock]))]
    exact hgg
theorem own_lt (h : w.ownsRow 0 e sz v n xs) : ∀ b ∈ blks v, b < w.heap.size := by
  intro b hb
  exact (h.lt b (by simpa [blks] using hb)).2
theorem own_ne (h : w.ownsRow 0 e sz v n xs) {g : Nat} {t : TypeId} {cs : Array Value} (hg : Blk w g t cs) (hne : e ≠ t) : g ∉ blks v := by
  intro hm
  rcases h.2 with ⟨rfl, _⟩ | ⟨g', cap, cur, rfl, _, hh, _⟩
  · simp [blks, Value.ownBlock] at hm
  · simp only [blks, Value.ownBlock, Option.toList_some, List.mem_singleton] at hm
    subst hm
    exact Blk.ne_ (t := e) hh hg hne rfl
theorem own_nil (w : World) (e : TypeId) (sz : Nat) : w.ownsRow 0 e sz (.slice none 0 0) 0 [] := World.ownsRow_nil w 0 e sz
end

/-! ### quiet calls within a region that draws -/
theorem quiet_left {P : Program} {f : FuncId} {args : Array Value} {w : World} {n : Nat} {v : Value}
    (h : Calls P f args (w.drewN n) fun e w' => e = .returned v ∧ w.drewN n = w') : Calls P f args (w.drewN n) fun e w'' => e = .returned v ∧ ∃ m, w'' = w.drewN m :=
  h.mono fun _ _ ⟨he, hm⟩ => ⟨he, n, hm.symm⟩
theorem quiet_add_left {P : Program} {f : FuncId} {args : Array Value} {w : World} {a n : Nat} {v : Value}
    (h : Calls P f args (w.drewN (a + n)) fun e w' => e = .returned v ∧ w.drewN (a + n) = w') :
    Calls P f args (w.drewN (a + n)) fun e w'' => e = .returned v ∧ ∃ m, w'' = w.drewN (a + m) :=
  h.mono fun _ _ ⟨he, hm⟩ => ⟨he, n, hm.symm⟩
theorem quiet_k {P : Program} {f : FuncId} {args : Array Value} {w : World} {n : Nat} {v : Value}
    (h : Calls P f args (w.drewN n) fun e w' => e = .returned v ∧ ∃ k, (w.drewN n).drewN k = w') : Calls P f args (w.drewN n) fun e w'' => e = .returned v ∧ ∃ m, w'' = w.drewN m :=
  h.mono fun _ _ ⟨he, k, hm⟩ => ⟨he, n + k, by rw [← hm, World.drewN_drewN]⟩

/-! ### a value of several cells, loaded and stored -/
/-- what the table says of a struct's or an array's type of sz cells -/
def RowT (P : Program) (ty : TypeId) (sz : Nat) : Prop := ∃ d : TypeDesc, P.underlying ty = some d ∧ d.isRow = true ∧ (P.info? ty).map (·.size) = some sz
theorem wpList_load_cells {P : Program} {ty : TypeId} {sz : Nat} (E : RowT P ty sz) {ops : Array Oper} {rest : List Oper} {op : Oper} {a : Act} {w : World} {Q : Exit → Act → World → Prop} (x : Operand) (ho : op.op = .load ty x) (hgd : Region.wanted op (yielded ops a.tmps) = true)
    {b o : Nat} (hx : a.eval x = .pointer (some ⟨b, o, none⟩)) {cs : List Value} (hl : cs.length = sz) (hc : ∀ (i : Nat) (u : Value), cs[i]? = some u → w.cell? ⟨b, o + i, none⟩ = some u)
    (h : wpList P ops Q rest (a.put op.dst (.agg cs.toArray)) w) : wpList P ops Q (op :: rest) a w := by
  obtain ⟨d, h1, h2, h3⟩ := E
  exact BigFrame.wpList_want hgd fun K hK => wp_load_mid ty x ho b o hx cs d hc h1 h2 (by rw [h3, hl]) (hK _ _ h)
theorem wpList_load_blk {P : Program} {ty : TypeId} {sz : Nat} (E : RowT P ty sz) {ops : Array Oper} {rest : List Oper} {op : Oper} {a : Act} {w : World} {Q : Exit → Act → World → Prop} (x : Operand) (ho : op.op = .load ty x) (hgd : Region.wanted op (yielded ops a.tmps) = true)
    {b : Nat} (hx : a.eval x = .pointer (some ⟨b, 0, none⟩)) {cs : List Value} {t : TypeId} (hb : Blk w b t cs.toArray) (hl : cs.length = sz)
    (h : wpList P ops Q rest (a.put op.dst (.agg cs.toArray)) w) : wpList P ops Q (op :: rest) a w :=
  wpList_load_cells E x ho hgd hx hl (fun i u hu => by rw [Nat.zero_add, hb.cell i]; simpa using hu) h
theorem wpList_store_blk {P : Program} {ty : TypeId} {sz : Nat} (E : RowT P ty sz) {ops : Array Oper} {rest : List Oper} {op : Oper} {a : Act} {w : World} {Q : Exit → Act → World → Prop} (x y : Operand) (ho : op.op = .store ty x y) (hgd : Region.wanted op (yielded ops a.tmps) = true)
    {g : Nat} (hx : a.eval x = .pointer (some ⟨g, 0, none⟩)) {cells : List Value} (hy : a.eval y = .agg cells.toArray) {t : TypeId} {old : Array Value} (hb : Blk w g t old) (hl : cells.length = sz) (hold : old.size = sz) (h1 : ∀ u ∈ cells, u.oneCell' = true)
    (h : ∀ w', Blk w' g t cells.toArray → Mod [g] w w' → wpList P ops Q rest (a.put op.dst undef) w') : wpList P ops Q (op :: rest) a w := by
  obtain ⟨d, _, _, h3⟩ := E
  exact BigFrame.wpList_want hgd fun K hK => wp_store_row ty x y ho g cells.toArray hx hy t old hb (by rw [h3]; simp [hl]) (by simp [hold, hl]) (all_oneCell_toArray h1) (hK _ _ (h _ (setRow_heap w g old _ t _ hb) ((Mod.refl [g] w).setRow g _ (by simp))))
theorem wpList_store_part {P : Program} {ty : TypeId} {sz : Nat} (E : RowT P ty sz) {ops : Array Oper} {rest : List Oper} {op : Oper} {a : Act} {w : World} {Q : Exit → Act → World → Prop} (x y : Operand) (ho : op.op = .store ty x y) (hgd : Region.wanted op (yielded ops a.tmps) = true)
    {g k : Nat} (hx : a.eval x = .pointer (some ⟨g, k, none⟩)) {cells : List Value} (hy : a.eval y = .agg cells.toArray) {t : TypeId} {cur : Array Value} (hb : Blk w g t cur) (hl : cells.length = sz) (hk : k + sz ≤ cur.size) (h1 : ∀ u ∈ cells, u.oneCell' = true)
    (h : ∀ w', Blk w' g t (cur.toList.take k ++ cells ++ cur.toList.drop (k + cells.length)).toArray → Mod [g] w w' → wpList P ops Q rest (a.put op.dst undef) w') : wpList P ops Q (op :: rest) a w := by
  obtain ⟨d, _, _, h3⟩ := E
  refine BigFrame.wpList_want hgd fun K hK => wp_store_mid ty x y ho g k cells.toArray hx hy (fun j hj => ⟨?_, hb.frozen _⟩) (by rw [h3]; simp [hl]) (all_oneCell_toArray h1) (hK _ _ ?_)
  · have hj' : j < cells.length := by simpa using hj
    rw [hb.cell, Array.getElem?_eq_getElem (by omega)]; rfl
  · rw [setCells_eq_setRow w P g k cells cur t hb (by omega) h1]
    exact h _ (setRow_heap w g cur _ t _ hb) ((Mod.refl [g] w).setRow g _ (by simp))
theorem run_load_blk {P : Program} {ty : TypeId} {sz : Nat} (E : RowT P ty sz) {w : World} {g : Nat} {te : TypeId} {cs : Array Value} (hb : Blk w g te cs) (hsz : cs.size = sz) : (loadVar ty ⟨g, 0, none⟩).run P w = .ok (.agg cs) w := by
  obtain ⟨d, h1, h2, h3⟩ := E
  have := run_loadVar_mid (P := P) w g 0 ty cs.toList d (fun i u hu => by rw [Nat.zero_add, hb.cell i]; simpa using hu) h1 h2 (by rw [h3]; simp [hsz])
  simpa using this
/-- results that lie in a cell, and in a slot -/
theorem results_row_tmp {P : Program} {fn : Func} {p t : Tmp} {ty : TypeId} {sz : Nat} (E : RowT P ty sz) (h : fn.results = #[.cell p ty, .tmp t]) {tmps : Array Value} {w : World} {g : Nat} {te : TypeId} {cs : Array Value}
    (hp : tmps.getD p undef = .pointer (some ⟨g, 0, none⟩)) (hb : Blk w g te cs) (hsz : cs.size = sz) :
    (results fn tmps).run P w = .ok (.tuple #[.agg cs, tmps.getD t undef]) w := by
  have hp' : tmps[p]?.getD undef = .pointer (some ⟨g, 0, none⟩) := by simpa using hp
  simp [results, h, hp', asAddr, run_load_blk E hb hsz]
theorem results_row {P : Program} {fn : Func} {p : Tmp} {ty : TypeId} {sz : Nat} (E : RowT P ty sz) (h : fn.results = #[.cell p ty]) {tmps : Array Value} {w : World} {g : Nat} {te : TypeId} {cs : Array Value}
    (hp : tmps.getD p undef = .pointer (some ⟨g, 0, none⟩)) (hb : Blk w g te cs) (hsz : cs.size = sz) :
    (results fn tmps).run P w = .ok (.agg cs) w := by
  have hp' : tmps[p]?.getD undef = .pointer (some ⟨g, 0, none⟩) := by simpa using hp
  simp [results, h, hp', asAddr, run_load_blk E hb hsz]
theorem results_row2 {P : Program} {fn : Func} {p q : Tmp} {ty tz : TypeId} {sz sy : Nat} (E : RowT P ty sz) (F : RowT P tz sy) (h : fn.results = #[.cell p ty, .cell q tz]) {tmps : Array Value} {w : World} {g k : Nat} {te tk : TypeId} {cs ds : Array Value}
    (hp : tmps.getD p undef = .pointer (some ⟨g, 0, none⟩)) (hb : Blk w g te cs) (hsz : cs.size = sz) (hq : tmps.getD q undef = .pointer (some ⟨k, 0, none⟩)) (hk : Blk w k tk ds) (hsy : ds.size = sy) :
    (results fn tmps).run P w = .ok (.tuple #[.agg cs, .agg ds]) w := by
  have hp' : tmps[p]?.getD undef = .pointer (some ⟨g, 0, none⟩) := by simpa using hp
  have hq' : tmps[q]?.getD undef = .pointer (some ⟨k, 0, none⟩) := by simpa using hq
  simp [results, h, hp', hq', asAddr, run_load_blk E hb hsz, run_load_blk F hk hsy]
theorem results_tmp_row {P : Program} {fn : Func} {p t : Tmp} {ty : TypeId} {sz : Nat} (E : RowT P ty sz) (h : fn.results = #[.tmp t, .cell p ty]) {tmps : Array Value} {w : World} {g : Nat} {te : TypeId} {cs : Array Value}
    (hp : tmps.getD p undef = .pointer (some ⟨g, 0, none⟩)) (hb : Blk w g te cs) (hsz : cs.size = sz) :
    (results fn tmps).run P w = .ok (.tuple #[tmps.getD t undef, .agg cs]) w := by
  have hp' : tmps[p]?.getD undef = .pointer (some ⟨g, 0, none⟩) := by simpa using hp
  simp [results, h, hp', asAddr, run_load_blk E hb hsz]

/-! ### a value of several cells in a new variable of its own -/
theorem wpList_box {P : Program} {ty : TypeId} {ops : Array Oper} {rest : List Oper} {op : Oper} {a : Act} {w : World} {Q : Exit → Act → World → Prop} (x : Operand) (ho : op.op = .box ty x) (hgd : Region.wanted op (yielded ops a.tmps) = true)
    {cs : List Value} (hx : a.eval x = .agg cs.toArray)
    (h : ∀ q w1, Blk w1 q ty cs.toArray → Mod [] w w1 → w.heap.size ≤ q → q < w1.heap.size → wpList P ops Q rest (a.put op.dst (.pointer (some ⟨q, 0, none⟩))) w1) : wpList P ops Q (op :: rest) a w := by
  refine BigFrame.wpList_want hgd fun K hK => ?_
  have hr : (Instr.box ty (.agg cs.toArray)).run P w = .ok (.pointer (some ⟨w.heap.size, 0, none⟩)) (w.alloc (.cells cs.toArray ty)) := by
    simp [Instr.box, newVar, newRow, Value.cells]
  unfold Oper.wp execOp
  simp only [ho, hx, Sem.run_bind, hr, Result.andThen_ok, Sem.run_pure]
  exact hK _ _ (h _ _ (Blk.new w ty _) ((Mod.refl [] w).alloc _) (Nat.le_refl _) (by simp))
/-- cells that lie one behind the other in a block -/
def CellsAt (w : World) (q off : Nat) (cs : List Value) : Prop := ∀ (i : Nat) (u : Value), cs[i]? = some u → w.cell? ⟨q, off + i, none⟩ = some u
theorem CellsAt.of_blk {w : World} {q : Nat} {t : TypeId} {cs : List Value} (h : Blk w q t cs.toArray) : CellsAt w q 0 cs := fun i u hu => by rw [Nat.zero_add, h.cell i]; simpa using hu
theorem CellsAt.mod {S : List Nat} {w w' : World} {q off : Nat} {cs : List Value} (h : CellsAt w q off cs) (hm : Mod S w w') (hq : q ∉ S) : CellsAt w' q off cs := fun i u hu => by
  have h1 := h i u hu
  rw [hm.cell (p := ⟨q, off + i, none⟩) (World.block_lt_of_cell? w _ h1) hq]
  exact h1
theorem CellsAt.part {w : World} {q off : Nat} {cs : List Value} (h : CellsAt w q off cs) (a n : Nat) : CellsAt w q (off + a) ((cs.drop a).take n) := fun i u hu => by
  rw [List.getElem?_take] at hu
  split at hu
  · rw [List.getElem?_drop] at hu
    rw [Nat.add_assoc]
    exact h _ _ hu
  · cases hu
/-! ### lists of values of several cells -/
theorem flat_get {α β : Type} (f : α → List β) (c : Nat) (hf : ∀ x, (f x).length = c) : ∀ (l : List α) (i k : Nat), k < c → (l.flatMap f)[i * c + k]? = (l[i]?).bind fun x => (f x)[k]?
  | [], i, k, _ => by simp
  | x :: l, 0, k, hk => by
    rw [List.flatMap_cons, Nat.zero_mul, Nat.zero_add, List.getElem?_append_left (by rw [hf]; exact hk)]
    rfl
  | x :: l, i + 1, k, hk => by
    rw [List.flatMap_cons, List.getElem?_append_right (by rw [hf, Nat.add_mul, Nat.one_mul]; omega), hf, List.getElem?_cons_succ, ← flat_get f c hf l i k hk]
    congr 1
    rw [Nat.add_mul, Nat.one_mul]
    omega
theorem flat_length {α β : Type} (f : α → List β) (c : Nat) (hf : ∀ x, (f x).length = c) (l : List α) : (l.flatMap f).length = l.length * c := by
  induction l with
  | nil => simp
  | cons x l ih => rw [List.flatMap_cons, List.length_append, hf, ih, List.length_cons, Nat.add_mul, Nat.one_mul, Nat.add_comm]
theorem RS.item {w : World} {sz g : Nat} {v : Value} {α : Type} {f : α → List Value} (hf : ∀ x, (f x).length = sz) {l : List α} (h : RS w sz g v l.length (l.flatMap f)) (h0 : 0 < l.length) :
    ∃ off cap, v = .slice (some ⟨g, off, none⟩) l.length cap ∧ l.length ≤ cap ∧ cap ≤ maxLen ∧ g < w.heap.size ∧ ∀ (i : Nat) (hi : i < l.length), CellsAt w g (off + i * sz) (f l[i]) := by
  obtain ⟨off, cap, hv, h1, h2, h3, hc⟩ := h.at_ h0
  refine ⟨off, cap, hv, h1, h2, h3, fun i hi k u hu => ?_⟩
  rw [Nat.add_assoc]
  refine hc _ _ ?_
  have hk : k < sz := by rw [← hf l[i]]; exact (List.getElem?_eq_some_iff.1 hu).1
  rw [flat_get f sz hf l i k hk, List.getElem?_eq_getElem hi]
  exact hu
end Go.Proofs.Ytlpjeckhejbkkaa
