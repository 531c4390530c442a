import Derived.WalkKit
import Derived.WalkSpells
import Derived.WalkLawsBesides
import Derived.Maps.AppendAt
import Derived.Deep.DeepAppendWide
import Derived.Deep.Draws
import Derived.Deep.QuietTactic
import Derived.BigQuiet
import Derived.Lib.Hide
import Derived.Deep.MidRow
import Derived.Laws.StructEq
import Derived.Stop.BytesEq
import Derived.Deep.AppendSrc
import Derived.Deep.LoopGhost
import Derived.Deep.RegionHeld3
import Derived.Deep.RegionLaw
import Derived.Deep.RegionWith
import Derived.StillTailTactics
import Derived.Deep.DeepCutAuto
import Derived.Deep.DeepFit
import Derived.Test.YtlpjeckhejbkkaaRows
import Derived.RowKit
import Derived.Laws.BitsAllLaws
import Derived.Laws.BitsLemmas
import Derived.OrdersHeld
import Derived.RegionTactic
section
set_option linter.unusedVariables false
set_option linter.unusedSimpArgs false
namespace Go.Proofs.Ytlpjeckhejbkkaa
open Go.RowKit

/-! ### what a call may change: only the blocks of S, and what is new -/
structure Mod (S : List Nat) (w w' : World) : Prop where
  os : w'.os = w.os
  tape : w'.tape = w.tape
  output : w'.output = w.output
  size : w.heap.size ≤ w'.heap.size
  block : ∀ i, i < w.heap.size → i ∉ S → w'.heap[i]? = w.heap[i]?
section
variable {S T : List Nat} {a b c w w' : World}
theorem Mod.refl (S : List Nat) (w : World) : Mod S w w := ⟨rfl, rfl, rfl, Nat.le_refl _, fun _ _ _ => rfl⟩
theorem Mod.trans (h : Mod S a b) (k : Mod S b c) : Mod S a c :=
  ⟨k.os.trans h.os, k.tape.trans h.tape, k.output.trans h.output, Nat.le_trans h.size k.size, fun i hi hn => (k.block i (Nat.lt_of_lt_of_le hi h.size) hn).trans (h.block i hi hn)⟩
theorem Mod.mono (h : Mod S a b) (hs : ∀ i, i ∈ S → i < a.heap.size → i ∈ T) : Mod T a b :=
  ⟨h.os, h.tape, h.output, h.size, fun i hi hn => h.block i hi (fun hm => hn (hs i hm hi))⟩
/-- a second step may change what is new since the first one began -/
theorem Mod.then (h : Mod S a b) (k : Mod T b c) (ht : ∀ i, i ∈ T → i ∈ S ∨ a.heap.size ≤ i) : Mod S a c :=
  ⟨k.os.trans h.os, k.tape.trans h.tape, k.output.trans h.output, Nat.le_trans h.size k.size, fun i hi hn =>
    (k.block i (Nat.lt_of_lt_of_le hi h.size) (fun hm => by
      rcases ht i hm with h1 | h1
      · exact hn h1
      · omega)).trans (h.block i hi hn)⟩
theorem Mod.drewN (h : Mod S a w) (n : Nat) : Mod S a (w.drewN n) := ⟨h.os, h.tape, h.output, h.size, h.block⟩
theorem Mod.drew (h : Mod S a w) : Mod S a w.drew := ⟨h.os, h.tape, h.output, h.size, h.block⟩
theorem Mod.alloc (h : Mod S a w) (o : Obj) : Mod S a (w.alloc o) :=
  ⟨h.os, h.tape, h.output, Nat.le_trans h.size (by simp), fun i hi hne => (Below.heap_alloc w o i (Nat.lt_of_lt_of_le hi h.size)).trans (h.block i hi hne)⟩
theorem Mod.setCell (h : Mod S a w) (p : Addr) (hp : p.block ∈ S ∨ a.heap.size ≤ p.block) (u : Value) : Mod S a (w.setCell p u) :=
  ⟨h.os, h.tape, h.output, by simpa [World.setCell] using h.size, fun i hi hne => (Below.heap_setCell w p u i (by
    rintro rfl
    rcases hp with hp | hp
    · exact hne hp
    · omega)).trans (h.block i hi hne)⟩
theorem Mod.below (h : Mod S a b) (hs : ∀ i, i ∈ S → a.heap.size ≤ i) : Below a.heap.size a b :=
  ⟨h.os, h.tape, h.output, h.size, fun i hi => h.block i hi (fun hm => by have := hs i hm; omega)⟩
theorem Mod.of_below (h : Below a.heap.size a b) (S : List Nat) : Mod S a b :=
  ⟨h.os, h.tape, h.output, h.size, fun i hi _ => h.block i hi⟩
theorem Mod.of_drewN (S : List Nat) (w : World) (n : Nat) : Mod S w (w.drewN n) := (Mod.refl S w).drewN n
theorem Mod.cell (h : Mod S a b) {p : Addr} (hp : p.block < a.heap.size) (hn : p.block ∉ S) : b.cell? p = a.cell? p :=
  World.cell?_of_block (h.block p.block hp hn)
end

/-! ### a block that is known whole -/
def Blk (w : World) (g : Nat) (t : TypeId) (cs : Array Value) : Prop := w.heap[g]? = some (.cells cs t (0, 0))
section
variable {w w' : World} {g : Nat} {t : TypeId} {cs : Array Value} {S : List Nat}
theorem Blk.lt (h : Blk w g t cs) : g < w.heap.size := by
  rcases Nat.lt_or_ge g w.heap.size with hlt | hge
  · exact hlt
  · unfold Blk at h; rw [Array.getElem?_eq_none hge] at h; cases h
theorem Blk.cell (h : Blk w g t cs) (i : Nat) : w.cell? ⟨g, i, none⟩ = cs[i]? := cell_of_row w g i cs t (0, 0) h
theorem Blk.frozen (h : Blk w g t cs) (i : Nat) : w.frozen? ⟨g, i, none⟩ = false := by
  unfold Blk at h
  simp [World.frozen?, h]
theorem Blk.new (w : World) (t : TypeId) (cs : Array Value) : Blk (w.alloc (.cells cs t)) w.heap.size t cs := heap_alloc_new w _
theorem Blk.drew (h : Blk w g t cs) : Blk w.drew g t cs := h
theorem Blk.drewN (h : Blk w g t cs) (n : Nat) : Blk (w.drewN n) g t cs := h
theorem Blk.alloc (h : Blk w g t cs) (o : Obj) : Blk (w.alloc o) g t cs := (Below.heap_alloc w o g h.lt).trans h
theorem Blk.set_ (h : Blk w g t cs) (i : Nat) (u : Value) : Blk (w.setCell ⟨g, i, none⟩ u) g t (cs.setIfInBounds i u) := by
  unfold Blk at h ⊢
  simp [World.setCell, Array.getElem?_modify, h]
theorem Blk.far (h : Blk w g t cs) {p : Addr} (hp : g ≠ p.block) (u : Value) : Blk (w.setCell p u) g t cs := (Below.heap_setCell w p u g hp).trans h
theorem Blk.mod (h : Blk w g t cs) (hb : Mod S w w') (hg : g ∉ S) : Blk w' g t cs := (hb.block g h.lt hg).trans h
theorem Blk.ne_ {g' : Nat} {t' : TypeId} {cs' : Array Value} (h : Blk w g t cs) (h' : Blk w g' t' cs') (hne : t ≠ t') : g ≠ g' := by
  rintro rfl
  unfold Blk at h h'
  rw [h] at h'
  injection h' with h'
  injection h' with _ ht
  exact hne ht
end

/-! ### a slice that reads as a list of cells; g: its block -/
def RS (w : World) (sz g : Nat) (v : Value) (n : Nat) (cs : List Value) : Prop :=
  cs.length = n * sz ∧ ∃ (A : Option Addr) (cap : Nat), v = .slice A n cap ∧ n ≤ cap ∧ cap ≤ maxLen ∧
    (0 < n → ∃ off, A = some ⟨g, off, none⟩ ∧ g < w.heap.size ∧ ∀ (i : Nat) (u : Value), cs[i]? = some u → w.cell? ⟨g, off + i, none⟩ = some u)
section
variable {w w' : World} {sz g n : Nat} {v : Value} {cs : List Value} {S : List Nat}
theorem RS.mod (h : RS w sz g v n cs) (hm : Mod S w w') (hg : 0 < n → g ∉ S) : RS w' sz g v n cs := by
  obtain ⟨hl, A, cap, hv, hn, hc, hf⟩ := h
  refine ⟨hl, A, cap, hv, hn, hc, fun h0 => ?_⟩
  obtain ⟨off, hA, hlt, hcell⟩ := hf h0
  exact ⟨off, hA, Nat.lt_of_lt_of_le hlt hm.size, fun i u hu => (hm.cell (p := ⟨g, off + i, none⟩) hlt (hg h0)).trans (hcell i u hu)⟩
theorem RS.drewN (h : RS w sz g v n cs) (k : Nat) : RS (w.drewN k) sz g v n cs := h
theorem RS.nil (w : World) (sz g : Nat) : RS w sz g (.slice none 0 0) 0 [] := ⟨by simp, none, 0, rfl, Nat.le_refl _, by decide, fun h => absurd h (by omega)⟩
theorem RS.of_own {e : TypeId} {base : Nat} (h : w.ownsRow base e sz v n cs) : ∃ g, RS w sz g v n cs ∧ (0 < n → v.ownBlock = some g) := by
  obtain ⟨hl, h | ⟨g, cap, cur, rfl, _, hg, hnc, hcm, hcs, ht⟩⟩ := h
  · obtain ⟨rfl, rfl⟩ := h
    obtain rfl : cs = [] := List.eq_nil_of_length_eq_zero (by simpa using hl)
    exact ⟨0, RS.nil w sz 0, fun h => absurd h (by omega)⟩
  · refine ⟨g, ⟨hl, _, cap, rfl, hnc, hcm, fun _ => ⟨0, rfl, (Array.getElem?_eq_some_iff.1 hg).1, fun i u hu => ?_⟩⟩, fun _ => rfl⟩
    rw [Nat.zero_add, cell_of_row w g i cur e (0, 0) hg, ← Array.getElem?_toList]
    rw [← ht, List.getElem?_take] at hu
    split at hu
    · exact hu
    · cases hu
theorem RS.len (h : RS w sz g v n cs) : cs.length = n * sz := h.1
/-- the value, opened -/
theorem RS.val (h : RS w sz g v n cs) : ∃ (A : Option Addr) (cap : Nat), v = .slice A n cap ∧ n ≤ cap ∧ cap ≤ maxLen := by
  obtain ⟨_, A, cap, hv, hn, hc, _⟩ := h
  exact ⟨A, cap, hv, hn, hc⟩
theorem RS.at_ (h : RS w sz g v n cs) (h0 : 0 < n) : ∃ (off cap : Nat), v = .slice (some ⟨g, off, none⟩) n cap ∧ n ≤ cap ∧ cap ≤ maxLen ∧ g < w.heap.size ∧ ∀ (i : Nat) (u : Value), cs[i]? = some u → w.cell? ⟨g, off + i, none⟩ = some u := by
  obtain ⟨_, A, cap, hv, hn, hc, hf⟩ := h
  obtain ⟨off, rfl, hlt, hcell⟩ := hf h0
  exact ⟨off, cap, hv, hn, hc, hlt, hcell⟩
end

theorem RS.cut {w : World} {sz g L cap lo n c' : Nat} {A A' : Option Addr} {cs : List Value} (h : RS w sz g (.slice A L cap) L cs) (hlo : lo + n ≤ L) (hn : n ≤ c') (hc : c' ≤ maxLen)
    (hA : 0 < n → A' = A.map (·.add (lo * sz))) : RS w sz g (.slice A' n c') n ((cs.drop (lo * sz)).take (n * sz)) := by
  have hlen : (lo + n) * sz ≤ L * sz := Nat.mul_le_mul_right _ hlo
  rw [Nat.add_mul] at hlen
  refine ⟨?_, A', c', rfl, hn, hc, fun h0 => ?_⟩
  · rw [List.length_take, List.length_drop, h.1]; omega
  · obtain ⟨_, A0, cap0, hv, _, _, hf⟩ := h
    obtain ⟨off, hA0, hlt, hcell⟩ := hf (by omega)
    injection hv with h1 _ _
    subst h1
    subst hA0
    refine ⟨off + lo * sz, ?_, hlt, fun i u hu => ?_⟩
    · rw [hA h0]
      simp only [Option.map_some, Addr.add]
      split <;> simp_all
    · rw [List.getElem?_take] at hu
      split at hu
      · rw [List.getElem?_drop] at hu
        rw [Nat.add_assoc]
        exact hcell _ _ hu
      · cases hu
theorem RS.cut1 {w : World} {g L cap lo n c' : Nat} {A A' : Option Addr} {cs : List Value} (h : RS w 1 g (.slice A L cap) L cs) (hlo : lo + n ≤ L) (hn : n ≤ c') (hc : c' ≤ maxLen)
    (hA : 0 < n → A' = A.map (·.add lo)) : RS w 1 g (.slice A' n c') n ((cs.drop lo).take n) := by
  have := h.cut (lo := lo) (n := n) (c' := c') (A' := A') hlo hn hc (by simpa using hA)
  simpa using this

theorem Mod.setRow {S : List Nat} {a w : World} (h : Mod S a w) (g : Nat) (cs : Array Value) (hp : g ∈ S ∨ a.heap.size ≤ g) : Mod S a (w.setRow g cs) :=
  ⟨h.os, h.tape, h.output, by simpa using h.size, fun i hi hne => (setRow_other w g i cs (by
    rintro rfl
    rcases hp with hp | hp
    · exact hne hp
    · omega)).trans (h.block i hi hne)⟩
/-! ### append onto a slice of the call's own -/
/-- what the table says of a slice type t with elements e of sz cells and so many bytes -/
def ElemT (P : Program) (t e : TypeId) (sz bytes : Nat) : Prop :=
  ∃ (i : TypeInfo) (z : Value), P.underlying t = some (.slice e) ∧ P.info? e = some i ∧ i.zero = some z ∧ i.size = sz ∧ i.bytes = bytes ∧ z.cells.size = sz ∧ 0 < sz
def blks (v : Value) : List Nat := v.ownBlock.toList
theorem Mod.of_grown {w w' : World} {row : Option Nat} (h : w.grownBy w' row) : Mod row.toList w w' :=
  ⟨h.os, h.tape, h.output, h.size, fun i hi hn => h.block i hi (by rintro rfl; simp at hn)⟩
section
variable {P : Program} (w : World)
theorem setCells_eq_setRow (P : Program) (g o : Nat) (vs : List Value) (cur : Array Value) (t : TypeId) (hg : w.heap[g]? = some (.cells cur t (0, 0))) (hfit : o + vs.length ≤ cur.size) (h1 : ∀ u ∈ vs, u.oneCell' = true) :
    w.setCells g o vs = w.setRow g (cur.toList.take o ++ vs ++ cur.toList.drop (o + vs.length)).toArray := by
  have h2 := run_storeCells_at P g o t vs 0 cur w hg (by simpa using hfit) h1
  have h3 := run_storeCells_cells (P := P) g o vs 0 w (fun j hj => by rw [cell_of_row w g _ cur t (0, 0) hg, Array.getElem?_eq_getElem (by omega)]; rfl) (fun j hj => frozen_of_row w g _ cur t hg) h1
  simp only [Nat.add_zero] at h2 h3
  rw [h2] at h3
  injection h3 with _ h3
  exact h3.symm
theorem run_append_src {t tx ty e : TypeId} {sz bytes : Nat} (E : ElemT P t e sz bytes)
    {v : Value} {n : Nat} {xs : List Value} (hown : w.ownsRow 0 e sz v n xs) {x : Value} {m : Nat} {news : List Value} (hs : Src P sz tx x m news w)
    (h63 : n + m ≤ maxLen) (hbytes : ((n + m) + (n + m) / 4 + 192) * bytes ≤ 281474976710656) :
    ∃ v' w', (Builtin.append_ #[t, tx] ty #[v, x]).run P w = .ok v' w' ∧ w'.ownsRow 0 e sz v' (n + m) (xs ++ news) ∧ Mod (blks v) w w' ∧
      (∀ b ∈ blks v', b ∈ blks v ∨ b = w.heap.size) := by
  obtain ⟨i, z, ht, hi, hz, hsz, hby, hzs, h0⟩ := E
  subst hsz
  subst hby
  have hsmall : n + m ≤ 9223372036854775807 := by simp only [maxLen] at h63; omega
  have hlen : (xs ++ news).length = (n + m) * i.size := by rw [List.length_append, hown.1, hs.newsLen, Nat.add_mul]
  have grown : ∀ (old : Nat), old < n + m →
      (w.drew.alloc (.cells ((xs ++ news).toArray ++ Builtin.zeroCells z.cells (grownCap w (n + m) old e - (n + m))) e)).ownsRow 0 e i.size
        (.slice (some ⟨w.heap.size, 0, none⟩) (n + m) (grownCap w (n + m) old e)) (n + m) (xs ++ news) ∧
      Mod (blks v) w (w.drew.alloc (.cells ((xs ++ news).toArray ++ Builtin.zeroCells z.cells (grownCap w (n + m) old e - (n + m))) e)) := by
    intro old ho
    have hge := grownCap_ge w (n + m) old e
    have hcm : grownCap w (n + m) old e ≤ maxLen := grownCap_le_maxLen w (n + m) old e h63
    refine ⟨⟨hlen, .inr ⟨w.heap.size, _, _, rfl, Nat.zero_le _, heap_alloc_new w.drew _, hge, hcm, ?_, ?_⟩⟩, (Mod.refl _ w).drew.alloc _⟩
    · simp only [Array.size_append, List.size_toArray, size_zeroCells, hzs, hlen, ← Nat.add_mul]
      congr 1
      omega
    · simp only [Array.toList_append]
      rw [← hlen]
      exact List.take_left
  have hfresh : ∀ (old : Nat), ∀ b ∈ blks (.slice (some ⟨w.heap.size, 0, none⟩) (n + m) (grownCap w (n + m) old e)), b ∈ blks v ∨ b = w.heap.size := by
    intro old b hb
    simp only [blks, Value.ownBlock, Option.toList_some, List.mem_singleton] at hb
    exact .inr hb
  rcases hown.2 with ⟨rfl, rfl⟩ | ⟨g, cap, cur, rfl, hbg, hg, hnc, hcm, hcs, htake⟩
  · have hx : xs = [] := List.eq_nil_of_length_eq_zero (by simpa using hown.1)
    subst hx
    by_cases hm : m = 0
    · subst hm
      have hn : news = [] := List.eq_nil_of_length_eq_zero (by simpa using hs.newsLen)
      subst hn
      refine ⟨.slice none 0 0, w, ?_, World.ownsRow_nil w 0 e i.size, Mod.refl _ w, fun b hb => .inl hb⟩
      have hc := hs.cells
      rcases hs.kind with ⟨e', hk⟩ | hk <;> simp [Builtin.append_, run_underlying ht, run_underlying hk, sizeOf, typeInfo, hi, hs.len, hc]
    · have hr := run_append_grow_src (P := P) w t tx ty e i z ht hi hz none 0 0 [] (run_firstCells_none w.drew i.size 0 0 0) x m news hs (by omega) (by omega) (growslice_fits_wide (by omega) hbytes)
      have hgr := grown 0 (by omega)
      simp only [Nat.zero_add, List.nil_append] at hgr hr ⊢
      exact ⟨_, _, hr, hgr.1, hgr.2, by simpa using hfresh 0⟩
  · by_cases hroom : n + m ≤ cap
    · have hfit : n * i.size + news.length ≤ cur.size := by rw [hs.newsLen, hcs, ← Nat.add_mul]; exact Nat.mul_le_mul_right _ hroom
      have hr := run_append_room_src (P := P) w t tx ty e i ht hi g 0 n cap x m news hs hroom
        (fun j hj => by rw [cell_of_row w g _ cur e (0, 0) hg]; rw [Array.getElem?_eq_getElem (by omega)]; rfl) (fun j hj => frozen_of_row w g _ cur e hg)
      rw [Nat.zero_add, setCells_eq_setRow w P g (n * i.size) news cur e hg hfit hs.one] at hr
      refine ⟨_, _, hr, ⟨hlen, .inr ⟨g, cap, _, rfl, Nat.zero_le _, setRow_heap w g cur _ e _ hg, hroom, hcm, ?_, ?_⟩⟩, (Mod.refl _ w).setRow g _ (.inl (by simp [blks, Value.ownBlock])), fun b hb => .inl hb⟩
      · simp only [List.size_toArray, List.length_append, List.length_take, List.length_drop, Array.length_toList]
        omega
      · rw [htake, ← hlen]
        exact List.take_left
    · have holds : ∀ j u, xs[j]? = some u → w.cell? ((⟨g, 0, none⟩ : Addr).add j) = some u := hown.cells (g := g) rfl
      have hr := run_append_grow_src (P := P) w t tx ty e i z ht hi hz (some ⟨g, 0, none⟩) n cap xs (run_firstCells_some w.drew i.size n ⟨g, 0, none⟩ n cap xs hown.1 (by simpa using holds)) x m news hs (by omega) (by omega) (growslice_fits_wide (by omega) hbytes)
      have hgr := grown cap (by omega)
      exact ⟨_, _, hr, hgr.1, hgr.2, hfresh cap⟩
/-- what is appended: a slice that reads as cells -/
theorem Src.of_rs {t e : TypeId} (ht : P.underlying t = some (.slice e)) {sz g : Nat} {sv : Value} {m : Nat} {news : List Value} (hr : RS w sz g sv m news) (h1 : ∀ u ∈ news, u.oneCell' = true) : Src P sz t sv m news w := by
  obtain ⟨hl, A, c, rfl, hmc, hcm, hf⟩ := hr
  rcases A with _ | a
  · have hm0 : m = 0 := by
      rcases Nat.eq_zero_or_pos m with h | h
      · exact h
      · obtain ⟨off, hA, _⟩ := hf h; cases hA
    subst hm0
    obtain rfl : news = [] := List.eq_nil_of_length_eq_zero (by simpa using hl)
    exact Src.ofNil w ht c
  · refine Src.ofSlice w ht a m c news hl (fun j u hu => ?_) h1
    have hm0 : 0 < m := by
      rcases Nat.eq_zero_or_pos m with h | h
      · subst h
        obtain rfl : news = [] := List.eq_nil_of_length_eq_zero (by simpa using hl)
        simp at hu
      · exact h
    obtain ⟨off, hA, _, hcell⟩ := hf hm0
    injection hA with hA
    subst hA
    have := hcell j u hu
    unfold Addr.add
    split
    · rename_i h; subst h; simpa using this
    · exact this
theorem own_slice {w : World} {base : Nat} {e : TypeId} {sz : Nat} {v : Value} {n : Nat} {xs : List Value} (h : w.ownsRow base e sz v n xs) : ∃ A cap, v = .slice A n cap ∧ n ≤ cap ∧ cap ≤ maxLen := by
  rcases h.2 with ⟨rfl, rfl⟩ | ⟨g, cap, cur, rfl, _, _, h1, h2, _⟩
  · exact ⟨none, 0, rfl, Nat.le_refl _, by decide⟩
  · exact ⟨_, cap, rfl, h1, h2⟩
/-- AT THE OPERATION -/
theorem wpList_append_src {ops : Array Oper} {rest : List Oper} {o : Oper} {a : Act} {Q : Exit → Act → World → Prop} {w : World} {t tx e : TypeId} {sz bytes : Nat} (E : ElemT P t e sz bytes) (hgd : Region.wanted o (yielded ops a.tmps) = true) (s x : Operand)
    (ho : o.op = .call { callee := .builtin .append, args := #[s, x], argTypes := #[t, tx] })
    {v : Value} {n : Nat} {xs : List Value} (hown : w.ownsRow 0 e sz v n xs) (hs : a.eval s = v) {sv : Value} {m : Nat} {news : List Value} (hr : Src P sz tx sv m news w) (hx : a.eval x = sv)
    (h63 : n + m ≤ maxLen) (hbytes : ((n + m) + (n + m) / 4 + 192) * bytes ≤ 281474976710656)
    (h : ∀ A' cap' w', w'.ownsRow 0 e sz (.slice A' (n + m) cap') (n + m) (xs ++ news) → Mod (blks v) w w' → (∀ b ∈ blks (.slice A' (n + m) cap'), b ∈ blks v ∨ b = w.heap.size) → wpList P ops Q rest (a.put o.dst (.slice A' (n + m) cap')) w') :
    wpList P ops Q (o :: rest) a w := by
  refine BigFrame.wpList_want hgd fun K hK => ?_
  obtain ⟨v', w', hrun, h2, h3, h4⟩ := run_append_src (P := P) w (ty := o.type) E hown hr h63 hbytes
  obtain ⟨A', cap', rfl, _, _⟩ := own_slice h2
  unfold Oper.wp execOp
  simp only [ho, resolve, invoke, builtin, Sem.run_bind, Sem.run_pure, Result.andThen_ok, List.map_toArray, List.map_cons, List.map_nil, hs, hx, hrun]
  exact hK _ _ (h A' cap' w' h2 h3 h4)
theorem step_append_src {ops : Array Oper} {o : Oper} {a : Act} {K : Act → World → Prop} {Q : Exit → Act → World → Prop} {G : Prop} {w : World} {t tx e : TypeId} {sz bytes : Nat} (E : ElemT P t e sz bytes) (hgd : Region.wanted o (yielded ops a.tmps) = true) (s x : Operand)
    (ho : o.op = .call { callee := .builtin .append, args := #[s, x], argTypes := #[t, tx] })
    {v : Value} {n : Nat} {xs : List Value} (hown : w.ownsRow 0 e sz v n xs) (hs : a.eval s = v) {sv : Value} {m : Nat} {news : List Value} (hr : Src P sz tx sv m news w) (hx : a.eval x = sv)
    (h63 : n + m ≤ maxLen) (hbytes : ((n + m) + (n + m) / 4 + 192) * bytes ≤ 281474976710656)
    (h : ∀ A' cap' w', w'.ownsRow 0 e sz (.slice A' (n + m) cap') (n + m) (xs ++ news) → Mod (blks v) w w' → (∀ b ∈ blks (.slice A' (n + m) cap'), b ∈ blks v ∨ b = w.heap.size) → K (a.put o.dst (.slice A' (n + m) cap')) w') :
    if Region.wanted o (yielded ops a.tmps) = true then Oper.wp P o a w K Q else G := by
  rw [if_pos hgd]
  obtain ⟨v', w', hrun, h2, h3, h4⟩ := run_append_src (P := P) w (ty := o.type) E hown hr h63 hbytes
  obtain ⟨A', cap', rfl, _, _⟩ := own_slice h2
  unfold Oper.wp execOp
  simp only [ho, resolve, invoke, builtin, Sem.run_bind, Sem.run_pure, Result.andThen_ok, List.map_toArray, List.map_cons, List.map_nil, hs, hx, hrun]
  exact h A' cap' w' h2 h3 h4
theorem ElemT.under {P : Program} {t e : TypeId} {sz bytes : Nat} (E : ElemT P t e sz bytes) : P.underlying t = some (.slice e) := by
  obtain ⟨i, z, ht, _⟩ := E
  exact ht
theorem wpList_append_rs {ops : Array Oper} {rest : List Oper} {o : Oper} {a : Act} {Q : Exit → Act → World → Prop} {w : World} {t e : TypeId} {sz bytes : Nat} (E : ElemT P t e sz bytes) (hgd : Region.wanted o (yielded ops a.tmps) = true) (s x : Operand)
    (ho : o.op = .call { callee := .builtin .append, args := #[s, x], argTypes := #[t, t] })
    {v : Value} {n : Nat} {xs : List Value} (hown : w.ownsRow 0 e sz v n xs) (hs : a.eval s = v) {g : Nat} {sv : Value} {m : Nat} {news : List Value} (hr : RS w sz g sv m news) (hx : a.eval x = sv) (h1 : ∀ u ∈ news, u.oneCell' = true)
    (h63 : n + m ≤ maxLen) (hbytes : ((n + m) + (n + m) / 4 + 192) * bytes ≤ 281474976710656)
    (h : ∀ A' cap' w', w'.ownsRow 0 e sz (.slice A' (n + m) cap') (n + m) (xs ++ news) → Mod (blks v) w w' → (∀ b ∈ blks (.slice A' (n + m) cap'), b ∈ blks v ∨ b = w.heap.size) → wpList P ops Q rest (a.put o.dst (.slice A' (n + m) cap')) w') :
    wpList P ops Q (o :: rest) a w :=
  wpList_append_src E hgd s x ho hown hs (Src.of_rs w E.under hr h1) hx h63 hbytes h
end

/-! ### an owned row is kept -/
section
variable {w w' : World} {e : TypeId} {sz n : Nat} {v : Value} {xs : List Value} {S : List Nat}
theorem own_mod (h : w.ownsRow 0 e sz v n xs) (hm : Mod S w w') (hd : ∀ b ∈ blks v, b ∉ S) : w'.ownsRow 0 e sz v n xs := by
  refine ⟨h.1, ?_⟩
  rcases h.2 with hn | ⟨g, cap, cur, rfl, hb, hgg, rest⟩
  · exact .inl hn
  · refine .inr ⟨g, cap, cur, rfl, hb, ?_, rest⟩
    rw [hm.block g (Array.getElem?_eq_some_iff.1 hgg).1 (hd g (by simp [blks, Value.ownBlock]))]
    exact hgg
theorem own_lt (h : w.ownsRow 0 e sz v n xs) : ∀ b ∈ blks v, b < w.heap.size := by
  intro b hb
  exact (h.lt b (by simpa [blks] using hb)).2
theorem own_ne (h : w.ownsRow 0 e sz v n xs) {g : Nat} {t : TypeId} {cs : Array Value} (hg : Blk w g t cs) (hne : e ≠ t) : g ∉ blks v := by
  intro hm
  rcases h.2 with ⟨rfl, _⟩ | ⟨g', cap, cur, rfl, _, hh, _⟩
  · simp [blks, Value.ownBlock] at hm
  · simp only [blks, Value.ownBlock, Option.toList_some, List.mem_singleton] at hm
    subst hm
    exact Blk.ne_ (t := e) hh hg hne rfl
theorem own_nil (w : World) (e : TypeId) (sz : Nat) : w.ownsRow 0 e sz (.slice none 0 0) 0 [] := World.ownsRow_nil w 0 e sz
end

/-! ### quiet calls within a region that draws -/
theorem quiet_left {P : Program} {f : FuncId} {args : Array Value} {w : World} {n : Nat} {v : Value}
    (h : Calls P f args (w.drewN n) fun e w' => e = .returned v ∧ w.drewN n = w') : Calls P f args (w.drewN n) fun e w'' => e = .returned v ∧ ∃ m, w'' = w.drewN m :=
  h.mono fun _ _ ⟨he, hm⟩ => ⟨he, n, hm.symm⟩
theorem quiet_add_left {P : Program} {f : FuncId} {args : Array Value} {w : World} {a n : Nat} {v : Value}
    (h : Calls P f args (w.drewN (a + n)) fun e w' => e = .returned v ∧ w.drewN (a + n) = w') :
    Calls P f args (w.drewN (a + n)) fun e w'' => e = .returned v ∧ ∃ m, w'' = w.drewN (a + m) :=
  h.mono fun _ _ ⟨he, hm⟩ => ⟨he, n, hm.symm⟩
theorem quiet_k {P : Program} {f : FuncId} {args : Array Value} {w : World} {n : Nat} {v : Value}
    (h : Calls P f args (w.drewN n) fun e w' => e = .returned v ∧ ∃ k, (w.drewN n).drewN k = w') : Calls P f args (w.drewN n) fun e w'' => e = .returned v ∧ ∃ m, w'' = w.drewN m :=
  h.mono fun _ _ ⟨he, k, hm⟩ => ⟨he, n + k, by rw [← hm, World.drewN_drewN]⟩

/-! ### a value of several cells, loaded and stored -/
/-- what the table says of a struct's or an array's type of sz cells -/
def RowT (P : Program) (ty : TypeId) (sz : Nat) : Prop := ∃ d : TypeDesc, P.underlying ty = some d ∧ d.isRow = true ∧ (P.info? ty).map (·.size) = some sz
theorem wpList_load_cells {P : Program} {ty : TypeId} {sz : Nat} (E : RowT P ty sz) {ops : Array Oper} {rest : List Oper} {op : Oper} {a : Act} {w : World} {Q : Exit → Act → World → Prop} (x : Operand) (ho : op.op = .load ty x) (hgd : Region.wanted op (yielded ops a.tmps) = true)
    {b o : Nat} (hx : a.eval x = .pointer (some ⟨b, o, none⟩)) {cs : List Value} (hl : cs.length = sz) (hc : ∀ (i : Nat) (u : Value), cs[i]? = some u → w.cell? ⟨b, o + i, none⟩ = some u)
    (h : wpList P ops Q rest (a.put op.dst (.agg cs.toArray)) w) : wpList P ops Q (op :: rest) a w := by
  obtain ⟨d, h1, h2, h3⟩ := E
  exact BigFrame.wpList_want hgd fun K hK => wp_load_mid ty x ho b o hx cs d hc h1 h2 (by rw [h3, hl]) (hK _ _ h)
theorem wpList_load_blk {P : Program} {ty : TypeId} {sz : Nat} (E : RowT P ty sz) {ops : Array Oper} {rest : List Oper} {op : Oper} {a : Act} {w : World} {Q : Exit → Act → World → Prop} (x : Operand) (ho : op.op = .load ty x) (hgd : Region.wanted op (yielded ops a.tmps) = true)
    {b : Nat} (hx : a.eval x = .pointer (some ⟨b, 0, none⟩)) {cs : List Value} {t : TypeId} (hb : Blk w b t cs.toArray) (hl : cs.length = sz)
    (h : wpList P ops Q rest (a.put op.dst (.agg cs.toArray)) w) : wpList P ops Q (op :: rest) a w :=
  wpList_load_cells E x ho hgd hx hl (fun i u hu => by rw [Nat.zero_add, hb.cell i]; simpa using hu) h
theorem wpList_store_blk {P : Program} {ty : TypeId} {sz : Nat} (E : RowT P ty sz) {ops : Array Oper} {rest : List Oper} {op : Oper} {a : Act} {w : World} {Q : Exit → Act → World → Prop} (x y : Operand) (ho : op.op = .store ty x y) (hgd : Region.wanted op (yielded ops a.tmps) = true)
    {g : Nat} (hx : a.eval x = .pointer (some ⟨g, 0, none⟩)) {cells : List Value} (hy : a.eval y = .agg cells.toArray) {t : TypeId} {old : Array Value} (hb : Blk w g t old) (hl : cells.length = sz) (hold : old.size = sz) (h1 : ∀ u ∈ cells, u.oneCell' = true)
    (h : ∀ w', Blk w' g t cells.toArray → Mod [g] w w' → wpList P ops Q rest (a.put op.dst undef) w') : wpList P ops Q (op :: rest) a w := by
  obtain ⟨d, _, _, h3⟩ := E
  exact BigFrame.wpList_want hgd fun K hK => wp_store_row ty x y ho g cells.toArray hx hy t old hb (by rw [h3]; simp [hl]) (by simp [hold, hl]) (all_oneCell_toArray h1) (hK _ _ (h _ (setRow_heap w g old _ t _ hb) ((Mod.refl [g] w).setRow g _ (by simp))))
theorem wpList_store_part {P : Program} {ty : TypeId} {sz : Nat} (E : RowT P ty sz) {ops : Array Oper} {rest : List Oper} {op : Oper} {a : Act} {w : World} {Q : Exit → Act → World → Prop} (x y : Operand) (ho : op.op = .store ty x y) (hgd : Region.wanted op (yielded ops a.tmps) = true)
    {g k : Nat} (hx : a.eval x = .pointer (some ⟨g, k, none⟩)) {cells : List Value} (hy : a.eval y = .agg cells.toArray) {t : TypeId} {cur : Array Value} (hb : Blk w g t cur) (hl : cells.length = sz) (hk : k + sz ≤ cur.size) (h1 : ∀ u ∈ cells, u.oneCell' = true)
    (h : ∀ w', Blk w' g t (cur.toList.take k ++ cells ++ cur.toList.drop (k + cells.length)).toArray → Mod [g] w w' → wpList P ops Q rest (a.put op.dst undef) w') : wpList P ops Q (op :: rest) a w := by
  obtain ⟨d, _, _, h3⟩ := E
  refine BigFrame.wpList_want hgd fun K hK => wp_store_mid ty x y ho g k cells.toArray hx hy (fun j hj => ⟨?_, hb.frozen _⟩) (by rw [h3]; simp [hl]) (all_oneCell_toArray h1) (hK _ _ ?_)
  · have hj' : j < cells.length := by simpa using hj
    rw [hb.cell, Array.getElem?_eq_getElem (by omega)]; rfl
  · rw [setCells_eq_setRow w P g k cells cur t hb (by omega) h1]
    exact h _ (setRow_heap w g cur _ t _ hb) ((Mod.refl [g] w).setRow g _ (by simp))
theorem run_load_blk {P : Program} {ty : TypeId} {sz : Nat} (E : RowT P ty sz) {w : World} {g : Nat} {te : TypeId} {cs : Array Value} (hb : Blk w g te cs) (hsz : cs.size = sz) : (loadVar ty ⟨g, 0, none⟩).run P w = .ok (.agg cs) w := by
  obtain ⟨d, h1, h2, h3⟩ := E
  have := run_loadVar_mid (P := P) w g 0 ty cs.toList d (fun i u hu => by rw [Nat.zero_add, hb.cell i]; simpa using hu) h1 h2 (by rw [h3]; simp [hsz])
  simpa using this
/-- results that lie in a cell, and in a slot -/
theorem results_row_tmp {P : Program} {fn : Func} {p t : Tmp} {ty : TypeId} {sz : Nat} (E : RowT P ty sz) (h : fn.results = #[.cell p ty, .tmp t]) {tmps : Array Value} {w : World} {g : Nat} {te : TypeId} {cs : Array Value}
    (hp : tmps.getD p undef = .pointer (some ⟨g, 0, none⟩)) (hb : Blk w g te cs) (hsz : cs.size = sz) :
    (results fn tmps).run P w = .ok (.tuple #[.agg cs, tmps.getD t undef]) w := by
  have hp' : tmps[p]?.getD undef = .pointer (some ⟨g, 0, none⟩) := by simpa using hp
  simp [results, h, hp', asAddr, run_load_blk E hb hsz]
theorem results_row {P : Program} {fn : Func} {p : Tmp} {ty : TypeId} {sz : Nat} (E : RowT P ty sz) (h : fn.results = #[.cell p ty]) {tmps : Array Value} {w : World} {g : Nat} {te : TypeId} {cs : Array Value}
    (hp : tmps.getD p undef = .pointer (some ⟨g, 0, none⟩)) (hb : Blk w g te cs) (hsz : cs.size = sz) :
    (results fn tmps).run P w = .ok (.agg cs) w := by
  have hp' : tmps[p]?.getD undef = .pointer (some ⟨g, 0, none⟩) := by simpa using hp
  simp [results, h, hp', asAddr, run_load_blk E hb hsz]
theorem results_row2 {P : Program} {fn : Func} {p q : Tmp} {ty tz : TypeId} {sz sy : Nat} (E : RowT P ty sz) (F : RowT P tz sy) (h : fn.results = #[.cell p ty, .cell q tz]) {tmps : Array Value} {w : World} {g k : Nat} {te tk : TypeId} {cs ds : Array Value}
    (hp : tmps.getD p undef = .pointer (some ⟨g, 0, none⟩)) (hb : Blk w g te cs) (hsz : cs.size = sz) (hq : tmps.getD q undef = .pointer (some ⟨k, 0, none⟩)) (hk : Blk w k tk ds) (hsy : ds.size = sy) :
    (results fn tmps).run P w = .ok (.tuple #[.agg cs, .agg ds]) w := by
  have hp' : tmps[p]?.getD undef = .pointer (some ⟨g, 0, none⟩) := by simpa using hp
  have hq' : tmps[q]?.getD undef = .pointer (some ⟨k, 0, none⟩) := by simpa using hq
  simp [results, h, hp', hq', asAddr, run_load_blk E hb hsz, run_load_blk F hk hsy]
theorem results_tmp_row {P : Program} {fn : Func} {p t : Tmp} {ty : TypeId} {sz : Nat} (E : RowT P ty sz) (h : fn.results = #[.tmp t, .cell p ty]) {tmps : Array Value} {w : World} {g : Nat} {te : TypeId} {cs : Array Value}
    (hp : tmps.getD p undef = .pointer (some ⟨g, 0, none⟩)) (hb : Blk w g te cs) (hsz : cs.size = sz) :
    (results fn tmps).run P w = .ok (.tuple #[tmps.getD t undef, .agg cs]) w := by
  have hp' : tmps[p]?.getD undef = .pointer (some ⟨g, 0, none⟩) := by simpa using hp
  simp [results, h, hp', asAddr, run_load_blk E hb hsz]

/-! ### a value of several cells in a new variable of its own -/
theorem wpList_box {P : Program} {ty : TypeId} {ops : Array Oper} {rest : List Oper} {op : Oper} {a : Act} {w : World} {Q : Exit → Act → World → Prop} (x : Operand) (ho : op.op = .box ty x) (hgd : Region.wanted op (yielded ops a.tmps) = true)
    {cs : List Value} (hx : a.eval x = .agg cs.toArray)
    (h : ∀ q w1, Blk w1 q ty cs.toArray → Mod [] w w1 → w.heap.size ≤ q → q < w1.heap.size → wpList P ops Q rest (a.put op.dst (.pointer (some ⟨q, 0, none⟩))) w1) : wpList P ops Q (op :: rest) a w := by
  refine BigFrame.wpList_want hgd fun K hK => ?_
  have hr : (Instr.box ty (.agg cs.toArray)).run P w = .ok (.pointer (some ⟨w.heap.size, 0, none⟩)) (w.alloc (.cells cs.toArray ty)) := by
    simp [Instr.box, newVar, newRow, Value.cells]
  unfold Oper.wp execOp
  simp only [ho, hx, Sem.run_bind, hr, Result.andThen_ok, Sem.run_pure]
  exact hK _ _ (h _ _ (Blk.new w ty _) ((Mod.refl [] w).alloc _) (Nat.le_refl _) (by simp))
/-- cells that lie one behind the other in a block -/
def CellsAt (w : World) (q off : Nat) (cs : List Value) : Prop := ∀ (i : Nat) (u : Value), cs[i]? = some u → w.cell? ⟨q, off + i, none⟩ = some u
theorem CellsAt.of_blk {w : World} {q : Nat} {t : TypeId} {cs : List Value} (h : Blk w q t cs.toArray) : CellsAt w q 0 cs := fun i u hu => by rw [Nat.zero_add, h.cell i]; simpa using hu
theorem CellsAt.mod {S : List Nat} {w w' : World} {q off : Nat} {cs : List Value} (h : CellsAt w q off cs) (hm : Mod S w w') (hq : q ∉ S) : CellsAt w' q off cs := fun i u hu => by
  have h1 := h i u hu
  rw [hm.cell (p := ⟨q, off + i, none⟩) (World.block_lt_of_cell? w _ h1) hq]
  exact h1
theorem CellsAt.part {w : World} {q off : Nat} {cs : List Value} (h : CellsAt w q off cs) (a n : Nat) : CellsAt w q (off + a) ((cs.drop a).take n) := fun i u hu => by
  rw [List.getElem?_take] at hu
  split at hu
  · rw [List.getElem?_drop] at hu
    rw [Nat.add_assoc]
    exact h _ _ hu
  · cases hu
/-! ### lists of values of several cells -/
theorem flat_get {α β : Type} (f : α → List β) (c : Nat) (hf : ∀ x, (f x).length = c) : ∀ (l : List α) (i k : Nat), k < c → (l.flatMap f)[i * c + k]? = (l[i]?).bind fun x => (f x)[k]?
  | [], i, k, _ => by simp
  | x :: l, 0, k, hk => by
    rw [List.flatMap_cons, Nat.zero_mul, Nat.zero_add, List.getElem?_append_left (by rw [hf]; exact hk)]
    rfl
  | x :: l, i + 1, k, hk => by
    rw [List.flatMap_cons, List.getElem?_append_right (by rw [hf, Nat.add_mul, Nat.one_mul]; omega), hf, List.getElem?_cons_succ, ← flat_get f c hf l i k hk]
    congr 1
    rw [Nat.add_mul, Nat.one_mul]
    omega
theorem flat_length {α β : Type} (f : α → List β) (c : Nat) (hf : ∀ x, (f x).length = c) (l : List α) : (l.flatMap f).length = l.length * c := by
  induction l with
  | nil => simp
  | cons x l ih => rw [List.flatMap_cons, List.length_append, hf, ih, List.length_cons, Nat.add_mul, Nat.one_mul, Nat.add_comm]
theorem RS.item {w : World} {sz g : Nat} {v : Value} {α : Type} {f : α → List Value} (hf : ∀ x, (f x).length = sz) {l : List α} (h : RS w sz g v l.length (l.flatMap f)) (h0 : 0 < l.length) :
    ∃ off cap, v = .slice (some ⟨g, off, none⟩) l.length cap ∧ l.length ≤ cap ∧ cap ≤ maxLen ∧ g < w.heap.size ∧ ∀ (i : Nat) (hi : i < l.length), CellsAt w g (off + i * sz) (f l[i]) := by
  obtain ⟨off, cap, hv, h1, h2, h3, hc⟩ := h.at_ h0
  refine ⟨off, cap, hv, h1, h2, h3, fun i hi k u hu => ?_⟩
  rw [Nat.add_assoc]
  refine hc _ _ ?_
  have hk : k < sz := by rw [← hf l[i]]; exact (List.getElem?_eq_some_iff.1 hu).1
  rw [flat_get f sz hf l i k hk, List.getElem?_eq_getElem hi]
  exact hu
end Go.Proofs.Ytlpjeckhejbkkaa
end

section
set_option linter.unusedVariables false
set_option linter.unusedSimpArgs false
namespace Go.Proofs.Ytlpjeckhejbkkaa

/-! ### numbers, bytes, what is laid -/
abbrev Bytes := List UInt8
abbrev bv (x : UInt8) : Value := .int .u8 (x.toNat : Int)

def putNum (x : Nat) : Bytes := if x < 128 then [UInt8.ofNat x] else UInt8.ofNat (x % 128 + 128) :: putNum (x / 128)
termination_by x
decreasing_by omega

def zig (x : Int) : Nat := if 0 ≤ x then 2 * x.toNat else 2 * (-(x + 1)).toNat + 1
def zag (n : Nat) : Int := if n % 2 = 0 then ((n / 2 : Nat) : Int) else -((n / 2 : Nat) : Int) - 1

/-! ### reading -/
inductive Rd (α : Type) where
  | ok (a : α) (pos : Nat)
  | bad (why at_ : Nat)
def Rd.bind {α β : Type} (r : Rd α) (f : α → Nat → Rd β) : Rd β :=
  match r with
  | .ok a p => f a p
  | .bad w a => .bad w a

/-- a number's form: the number, how many bytes, what is wrong (0: nothing) -/
def numAt : Nat → Nat → Bytes → Nat × Nat × Nat
  | i, _, [] => if 10 ≤ i then (0, 0, 22) else (0, 0, 20)
  | i, acc, c :: r =>
    if 10 ≤ i then (0, 0, 22)
    else if i = 9 ∧ 1 < c.toNat then (0, 0, 22)
    else if c.toNat < 128 then (if c.toNat = 0 ∧ 0 < i then (0, 0, 21) else (acc + c.toNat * 128 ^ i, i + 1, 0))
    else numAt (i + 1) (acc + c.toNat % 128 * 128 ^ i) r
def rdNum (xs : Bytes) (pos most : Nat) : Rd Nat :=
  let t := numAt 0 0 (xs.drop pos)
  if t.2.2 = 0 then (if most < t.1 then .bad 22 pos else .ok t.1 (pos + t.2.1)) else .bad t.2.2 pos
def rdRaw (xs : Bytes) (pos n : Nat) : Rd Bytes := if xs.length < pos + n then .bad 20 pos else .ok ((xs.drop pos).take n) (pos + n)
def rdByte (xs : Bytes) (pos : Nat) : Rd UInt8 := if h : pos < xs.length then .ok xs[pos] (pos + 1) else .bad 20 pos
def rdBytes (xs : Bytes) (pos most : Nat) : Rd Bytes := (rdNum xs pos most).bind fun n p => rdRaw xs p n
def rdSigned (xs : Bytes) (pos : Nat) : Rd Int := (rdNum xs pos 18446744073709551615).bind fun n p => .ok (zag n) p

/-! ### hashes, operations -/
structure GHash where
  l : Bytes
  h : l.length = 32
deriving DecidableEq
def GHash.zero : GHash := ⟨List.replicate 32 0, by simp⟩
structure GIdent where
  node : GHash
  op : Int
deriving DecidableEq
def GIdent.zero : GIdent := ⟨GHash.zero, 0⟩
structure GOp where
  kind : Int
  key : ByteArray
  text : ByteArray
  n : Int
  at_ : GIdent
deriving DecidableEq
def GOp.zero : GOp := ⟨0, ⟨#[]⟩, ⟨#[]⟩, 0, GIdent.zero⟩

def rdHash (xs : Bytes) (pos : Nat) : Rd GHash :=
  if h : pos + 32 ≤ xs.length then .ok ⟨(xs.drop pos).take 32, by simp; omega⟩ (pos + 32) else .bad 20 pos

def hasText (k : Int) : Bool := k == 1 || k == 3 || k == 4 || k == 8
def hasAt (k : Int) : Bool := k == 8 || k == 9
def cellOf (k : Int) : Int := if k = 1 ∨ k = 2 then 1 else if k = 3 ∨ k = 4 ∨ k = 5 then 2 else if k = 6 ∨ k = 7 then 3 else if k = 8 ∨ k = 9 then 4 else 0
def known (k : Int) : Bool := decide (1 ≤ k ∧ k ≤ 9)

/-- may the At of an operation behind others be? -/
def atMay (l : List GOp) (o : GOp) : Bool :=
  if o.at_.node = GHash.zero then
    if o.at_.op = 0 then o.kind == 8
    else if 1 ≤ o.at_.op ∧ o.at_.op ≤ l.length then
      match l[(o.at_.op - 1).toNat]? with
      | some x => x.kind == 8 && x.key == o.key
      | none => false
    else false
  else decide (1 ≤ o.at_.op ∧ o.at_.op ≤ 1024)
def wrongOp (l : List GOp) (o : GOp) : Nat :=
  if known o.kind = false then 40
  else if 65536 < o.key.size ∨ 65536 < o.text.size then 4
  else if (hasText o.kind = false ∧ o.text.size ≠ 0) ∨ (o.kind ≠ 6 ∧ o.n ≠ 0) ∨ (hasAt o.kind = false ∧ o.at_ ≠ GIdent.zero) then 41
  else if hasAt o.kind = true ∧ atMay l o = false then 42
  else 0
def checkFrom (done : List GOp) : List GOp → Nat × Nat
  | [] => (0, 0)
  | o :: r => if wrongOp done o = 0 then checkFrom (done ++ [o]) r else (wrongOp done o, done.length)
def checkOps (l : List GOp) : Nat × Nat := if 1024 < l.length then (3, 0) else checkFrom [] l

def putText (s : ByteArray) : Bytes := putNum s.size ++ s.data.toList
def putAt (a : GIdent) : Bytes := putNum a.op.toNat ++ (if a.op = 0 then [] else a.node.l)
def putOp (o : GOp) : Bytes :=
  UInt8.ofNat (o.kind.toNat % 256) :: (putText o.key ++ ((if hasText o.kind then putText o.text else []) ++
    ((if o.kind = 6 then putNum (zig o.n) else []) ++ (if hasAt o.kind then putAt o.at_ else []))))
def putOps (l : List GOp) : Bytes := putNum l.length ++ l.flatMap putOp

def rdText (xs : Bytes) (pos : Nat) : Rd ByteArray := (rdBytes xs pos 65536).bind fun b p => .ok ⟨b.toArray⟩ p
def rdAt (xs : Bytes) (pos : Nat) : Rd GIdent :=
  (rdNum xs pos 1024).bind fun n p => if n = 0 then .ok GIdent.zero p else (rdHash xs p).bind fun h q => .ok ⟨h, n⟩ q
def rdOp (xs : Bytes) (pos : Nat) (done : List GOp) : Rd GOp :=
  (rdByte xs pos).bind fun k p1 =>
    if known k.toNat = false then .bad 40 pos else
    (rdText xs p1).bind fun key p2 =>
    (if hasText k.toNat then rdText xs p2 else .ok ⟨#[]⟩ p2 : Rd ByteArray).bind fun text p3 =>
    (if (k.toNat : Int) = 6 then rdSigned xs p3 else .ok 0 p3 : Rd Int).bind fun n p4 =>
    if hasAt k.toNat then
      (rdAt xs p4).bind fun a p5 => if atMay done ⟨k.toNat, key, text, n, a⟩ then .ok ⟨k.toNat, key, text, n, a⟩ p5 else .bad 42 p4
    else .ok ⟨k.toNat, key, text, n, GIdent.zero⟩ p4
def rdList (xs : Bytes) : Nat → Nat → List GOp → Rd (List GOp)
  | 0, pos, done => .ok done pos
  | k + 1, pos, done => (rdOp xs pos done).bind fun o p => rdList xs k p (done ++ [o])
def rdOps (xs : Bytes) (pos : Nat) : Rd (List GOp) := (rdNum xs pos 1024).bind fun n p => rdList xs n p []

/-! ### as values -/
def GHash.cells (h : GHash) : List Value := h.l.map bv
def GHash.val (h : GHash) : Value := .agg h.cells.toArray
def GIdent.cells (a : GIdent) : List Value := a.node.cells ++ [.int .i64 a.op]
def GIdent.val (a : GIdent) : Value := .agg a.cells.toArray
def GOp.cells (o : GOp) : List Value := .int .i64 o.kind :: .string o.key :: .string o.text :: .int .i64 o.n :: o.at_.cells
def GOp.val (o : GOp) : Value := .agg o.cells.toArray
theorem GHash.cells_length (h : GHash) : h.cells.length = 32 := by simp [GHash.cells, h.h]
theorem GIdent.cells_length (a : GIdent) : a.cells.length = 33 := by simp [GIdent.cells, GHash.cells_length]
theorem GOp.cells_length (o : GOp) : o.cells.length = 37 := by simp [GOp.cells, GIdent.cells_length]
end Go.Proofs.Ytlpjeckhejbkkaa
end

section
set_option linter.unusedVariables false
set_option linter.unusedSimpArgs false
set_option maxRecDepth 20000
set_option maxHeartbeats 400000
namespace Go.Proofs.Ytlpjeckhejbkkaa
open Go.RowKit

theorem elemT_of {P : Program} {t e : TypeId} {z : Value} {sz bytes : Nat} (ht : P.underlying t = some (.slice e)) (hi : (P.info? e).map (fun i => (i.zero, i.size, i.bytes)) = some (some z, sz, bytes))
    (hz : z.cells.size = sz) (h0 : 0 < sz) : ElemT P t e sz bytes := by
  obtain ⟨i, h1, h2, h3, h4⟩ := info_parts hi
  exact ⟨i, z, ht, h1, h2, h3, h4, hz, h0⟩
theorem infoByte : (Try.prog.info? 5).map (fun i => (i.zero, i.size, i.bytes)) = some (some (.int .u8 0), 1, 1) := by kernel_rfl
theorem etBytes : ElemT Try.prog 27 5 1 1 := elemT_of Try.underlying27 infoByte rfl (by decide)
theorem infoOp : (Try.prog.info? 74).map (fun i => (i.zero, i.size, i.bytes)) = some (some GOp.zero.val, 37, 88) := by kernel_rfl
theorem etOps : ElemT Try.prog 24 74 37 88 := elemT_of Try.underlying24 infoOp (by decide) (by decide)

theorem rtHash : RowT Try.prog 46 32 := ⟨_, Try.underlying46, rfl, by kernel_rfl⟩
theorem rtIdent : RowT Try.prog 72 33 := ⟨_, Try.underlying72, rfl, by kernel_rfl⟩
theorem rtOp : RowT Try.prog 74 37 := ⟨_, Try.underlying74, rfl, by kernel_rfl⟩
theorem GHash.one (h : GHash) : ∀ u ∈ h.cells, u.oneCell' = true := by
  intro u hu
  obtain ⟨x, _, rfl⟩ := List.mem_map.1 hu
  rfl
theorem GIdent.one (a : GIdent) : ∀ u ∈ a.cells, u.oneCell' = true := by
  intro u hu
  rcases List.mem_append.1 hu with hu | hu
  · exact a.node.one u hu
  · simp only [List.mem_singleton] at hu; subst hu; rfl
theorem GOp.one (o : GOp) : ∀ u ∈ o.cells, u.oneCell' = true := by
  intro u hu
  simp only [GOp.cells, List.mem_cons] at hu
  rcases hu with rfl | rfl | rfl | rfl | hu
  · rfl
  · rfl
  · rfl
  · rfl
  · exact o.at_.one u hu

theorem run_arrayAt_hash (a : Option Addr) (len cap : Nat) (h : 32 ≤ len) (w : World) : (Instr.arrayAt 46 (.slice a len cap)).run Try.prog w = .ok (.pointer a) w := by
  have h' : ¬ len < 32 := by omega
  simp [Instr.arrayAt, run_underlying Try.underlying46, h']

/-! ### bytes -/
abbrev BS (w : World) (g : Nat) (v : Value) (xs : Bytes) : Prop := RS w 1 g v xs.length (xs.map bv)
def OwnB (w : World) (v : Value) (xs : Bytes) : Prop := w.ownsRow 0 5 1 v xs.length (xs.map bv)
theorem OwnB.nil (w : World) : OwnB w (.slice none 0 0) [] := own_nil w _ _
theorem OwnB.mod {w w' : World} {v : Value} {xs : Bytes} {S : List Nat} (h : OwnB w v xs) (hm : Mod S w w') (hd : ∀ b ∈ blks v, b ∉ S) : OwnB w' v xs := own_mod h hm hd
theorem OwnB.lt {w : World} {v : Value} {xs : Bytes} (h : OwnB w v xs) : ∀ b ∈ blks v, b < w.heap.size := own_lt h
theorem OwnB.bs {w : World} {v : Value} {xs : Bytes} (h : OwnB w v xs) : ∃ g, BS w g v xs ∧ (0 < xs.length → g ∈ blks v) := by
  obtain ⟨g, h1, h2⟩ := RS.of_own h
  exact ⟨g, h1, fun h0 => by simp [blks, h2 h0]⟩
theorem OwnB.val {w : World} {v : Value} {xs : Bytes} (h : OwnB w v xs) : ∃ A cap, v = .slice A xs.length cap ∧ xs.length ≤ cap ∧ cap ≤ maxLen := own_slice h
theorem bv_one (xs : Bytes) : ∀ u ∈ xs.map bv, u.oneCell' = true := by
  intro u hu
  obtain ⟨x, _, rfl⟩ := List.mem_map.1 hu
  rfl
theorem wpList_append_bytes {ops : Array Oper} {rest : List Oper} {o : Oper} {a : Act} {Q : Exit → Act → World → Prop} {w : World} (hgd : Region.wanted o (yielded ops a.tmps) = true) (s x : Operand)
    (ho : o.op = .call { callee := .builtin .append, args := #[s, x], argTypes := #[27, 27] })
    {v : Value} {xs : Bytes} (hown : OwnB w v xs) (hs : a.eval s = v) {g : Nat} {sv : Value} {ys : Bytes} (hr : BS w g sv ys) (hx : a.eval x = sv)
    (h : ∀ A' n' cap' w', OwnB w' (.slice A' n' cap') (xs ++ ys) → Hid (n' = xs.length + ys.length) → Mod (blks v) w w' → Hid (∀ b ∈ blks (.slice A' n' cap'), b ∈ blks v ∨ b = w.heap.size) → wpList Try.prog ops Q rest (a.put o.dst (.slice A' n' cap')) w') (hz : xs.length + ys.length ≤ 200000000000000) :
    wpList Try.prog ops Q (o :: rest) a w := by
  refine wpList_append_rs etBytes hgd s x ho hown hs hr hx (bv_one ys) (by unfold maxLen; omega) (by omega) fun A' cap' w' h1 h2 h3 => h A' _ cap' w' ?_ (Lib.hid rfl) h2 (Lib.hid h3)
  unfold OwnB
  rw [List.length_append, List.map_append]
  exact h1
theorem step_append_bytes {ops : Array Oper} {o : Oper} {a : Act} {K : Act → World → Prop} {Q : Exit → Act → World → Prop} {G : Prop} {w : World} (hgd : Region.wanted o (yielded ops a.tmps) = true) (s x : Operand)
    (ho : o.op = .call { callee := .builtin .append, args := #[s, x], argTypes := #[27, 27] })
    {v : Value} {xs : Bytes} (hown : OwnB w v xs) (hs : a.eval s = v) {g : Nat} {sv : Value} {ys : Bytes} (hr : BS w g sv ys) (hx : a.eval x = sv)
    (h : ∀ A' n' cap' w', OwnB w' (.slice A' n' cap') (xs ++ ys) → Hid (n' = xs.length + ys.length) → Mod (blks v) w w' → Hid (∀ b ∈ blks (.slice A' n' cap'), b ∈ blks v ∨ b = w.heap.size) → K (a.put o.dst (.slice A' n' cap')) w') (hz : xs.length + ys.length ≤ 200000000000000) :
    if Region.wanted o (yielded ops a.tmps) = true then Oper.wp Try.prog o a w K Q else G := by
  refine step_append_src etBytes hgd s x ho hown hs (Src.of_rs w Try.underlying27 hr (bv_one ys)) hx (by unfold maxLen; omega) (by omega) fun A' cap' w' h1 h2 h3 => h A' _ cap' w' ?_ (Lib.hid rfl) h2 (Lib.hid h3)
  unfold OwnB
  rw [List.length_append, List.map_append]
  exact h1
theorem wpList_append_string {ops : Array Oper} {rest : List Oper} {o : Oper} {a : Act} {Q : Exit → Act → World → Prop} {w : World} (hgd : Region.wanted o (yielded ops a.tmps) = true) (s x : Operand)
    (ho : o.op = .call { callee := .builtin .append, args := #[s, x], argTypes := #[27, 9] })
    {v : Value} {xs : Bytes} (hown : OwnB w v xs) (hs : a.eval s = v) {str : ByteArray} (hx : a.eval x = .string str)
    (h : ∀ A' n' cap' w', OwnB w' (.slice A' n' cap') (xs ++ str.data.toList) → Hid (n' = xs.length + str.size) → Mod (blks v) w w' → Hid (∀ b ∈ blks (.slice A' n' cap'), b ∈ blks v ∨ b = w.heap.size) → wpList Try.prog ops Q rest (a.put o.dst (.slice A' n' cap')) w') (hz : xs.length + str.size ≤ 200000000000000) :
    wpList Try.prog ops Q (o :: rest) a w := by
  refine wpList_append_src etBytes hgd s x ho hown hs (Src.ofString w Try.underlying9 str) hx (by unfold maxLen; omega) (by omega) fun A' cap' w' h1 h2 h3 => h A' _ cap' w' ?_ (Lib.hid rfl) h2 (Lib.hid h3)
  unfold OwnB
  have e : (xs ++ str.data.toList).length = xs.length + str.size := by rw [List.length_append, Array.length_toList]; rfl
  rw [e, List.map_append]
  exact h1
theorem foldl_push (xs : Bytes) : ∀ acc : ByteArray, (xs.map fun x : UInt8 => (x.toNat : Int)).foldl (fun r n => r.push (UInt8.ofNat n.toNat)) acc = ⟨acc.data ++ xs.toArray⟩ := by
  induction xs with
  | nil => intro acc; simp
  | cons x xs ih =>
    intro acc
    rw [List.map_cons, List.foldl_cons, ih]
    apply ByteArray.ext
    simp [ByteArray.push]
/-- string(b) -/
theorem run_str {w : World} {g : Nat} {v : Value} {xs : Bytes} (h : BS w g v xs) : (convert 27 9 v).run Try.prog w = .ok (.string ⟨xs.toArray⟩) w := by
  obtain ⟨A, cap, rfl, _, _⟩ := h.val
  rw [run_convert_bytes_string w 27 9 5 A _ cap Try.underlying27 Try.underlying5 Try.underlying9]
  have hnil : xs = [] → (Conv.bytesToString (.slice none xs.length cap)).run Try.prog w = .ok (.string ⟨xs.toArray⟩) w := by
    rintro rfl
    simp [Conv.bytesToString]
    rfl
  rcases A with _ | a
  · rcases xs with _ | ⟨x, xs⟩
    · exact hnil rfl
    · obtain ⟨_, _, hv, _⟩ := h.at_ (by simp)
      cases hv
  · have hl : (loadCells a xs.length).run Try.prog w = .ok ((xs.map fun x : UInt8 => (x.toNat : Int)).map (Value.int .u8)).toArray w := by
      have := run_loadCells_list (P := Try.prog) w a (xs.map bv) (fun j u hu => by
        have h0 : 0 < xs.length := by
          rcases xs with _ | ⟨x, xs⟩
          · simp at hu
          · simp
        obtain ⟨off, _, hv, _, _, _, hcell⟩ := h.at_ h0
        injection hv with hv _ _
        injection hv with hv
        subst hv
        have := hcell j u hu
        unfold Addr.add
        split
        · rename_i e; subst e; simpa using this
        · exact this)
      rw [List.length_map] at this
      rw [this, List.map_map]
      rfl
    rw [run_bytesToString w a _ cap _ hl, foldl_push]
    simp
/-- one cell in a block of its own -/
theorem RS.one (w : World) (t : TypeId) (v : Value) : RS (w.alloc (.cells #[v] t)) 1 w.heap.size (.slice (some ⟨w.heap.size, 0, none⟩) 1 1) 1 [v] := by
  refine ⟨rfl, _, 1, rfl, Nat.le_refl _, by decide, fun _ => ⟨0, rfl, by simp, fun i u hu => ?_⟩⟩
  match i, hu with
  | 0, hu =>
    simp only [List.getElem?_cons_zero, Option.some.injEq] at hu
    subst hu
    exact (Blk.new w t #[v]).cell 0
theorem bs_one (w : World) (t : TypeId) {xi : Int} {x : UInt8} (hx : xi = x.toNat) : BS (w.alloc (.cells #[.int .u8 xi] t)) w.heap.size (.slice (some ⟨w.heap.size, 0, none⟩) 1 1) [x] := by
  subst hx
  exact RS.one w t (bv x)
end Go.Proofs.Ytlpjeckhejbkkaa
end

section
set_option linter.unusedVariables false
set_option linter.unusedSimpArgs false
set_option maxRecDepth 20000
set_option maxHeartbeats 400000
namespace Go.Proofs.Ytlpjeckhejbkkaa
open Go.RowKit

theorem run_part_row {P : Program} {ty : TypeId} {sz : Nat} (E : RowT P ty sz) (w : World) (cs : Array Value) (off : Nat) : (part ty cs off).run P w = .ok (.agg (cs.extract off (off + sz))) w := by
  obtain ⟨d, h1, h2, h3⟩ := E
  cases hq : P.info? ty with
  | none => simp [hq] at h3
  | some i =>
    have hs : i.size = sz := by simpa [hq] using h3
    have hagg : (isAgg ty).run P w = .ok true w := by
      unfold isAgg
      rw [Sem.run_bind, run_underlying h1 w]
      cases d <;> simp_all [TypeDesc.isRow]
    simp [part, Sem.run_bind, hagg, sizeOf, typeInfo, hq, hs]
theorem GOp.extract4 (o : GOp) : o.cells.toArray.extract 4 37 = o.at_.cells.toArray := by
  apply Array.toList_inj.1
  simp [GOp.cells, List.take_of_length_le (Nat.le_of_eq (GIdent.cells_length o.at_))]
theorem GIdent.extract0 (a : GIdent) : a.cells.toArray.extract 0 32 = a.node.cells.toArray := by
  apply Array.toList_inj.1
  simp [GIdent.cells, GHash.cells_length]
section
variable (o p : GOp) (a b : GIdent) (h k : GHash) (w : World)
@[go_sem ↓] theorem run_field_op0 : (Instr.field 74 o.val 0).run Try.prog w = .ok (.int .i64 o.kind) w := by
  simp [Instr.field, run_underlying Try.underlying74, GOp.val, asAgg, part, isAgg, run_underlying Try.underlying3, GOp.cells]
@[go_sem ↓] theorem run_field_op1 : (Instr.field 74 o.val 1).run Try.prog w = .ok (.string o.key) w := by
  simp [Instr.field, run_underlying Try.underlying74, GOp.val, asAgg, part, isAgg, run_underlying Try.underlying9, GOp.cells]
@[go_sem ↓] theorem run_field_op2 : (Instr.field 74 o.val 2).run Try.prog w = .ok (.string o.text) w := by
  simp [Instr.field, run_underlying Try.underlying74, GOp.val, asAgg, part, isAgg, run_underlying Try.underlying9, GOp.cells]
@[go_sem ↓] theorem run_field_op3 : (Instr.field 74 o.val 3).run Try.prog w = .ok (.int .i64 o.n) w := by
  simp [Instr.field, run_underlying Try.underlying74, GOp.val, asAgg, part, isAgg, run_underlying Try.underlying2, GOp.cells]
@[go_sem ↓] theorem run_field_op4 : (Instr.field 74 o.val 4).run Try.prog w = .ok o.at_.val w := by
  simp only [Instr.field, run_underlying Try.underlying74, GOp.val, asAgg, Sem.run_bind, Sem.run_pure, Result.andThen_ok]
  exact (run_part_row rtIdent w o.cells.toArray 4).trans (by rw [GOp.extract4]; rfl)
@[go_sem ↓] theorem run_field_ident0 : (Instr.field 72 a.val 0).run Try.prog w = .ok a.node.val w := by
  simp only [Instr.field, run_underlying Try.underlying72, GIdent.val, asAgg, Sem.run_bind, Sem.run_pure, Result.andThen_ok]
  exact (run_part_row rtHash w a.cells.toArray 0).trans (by rw [Nat.zero_add, GIdent.extract0]; rfl)
@[go_sem ↓] theorem run_field_ident1 : (Instr.field 72 a.val 1).run Try.prog w = .ok (.int .i64 a.op) w := by
  simp [Instr.field, run_underlying Try.underlying72, GIdent.val, asAgg, part, isAgg, run_underlying Try.underlying3, GIdent.cells, GHash.cells_length, List.getElem?_append_right]

/-! ### equality -/
theorem ba_ext {a b : ByteArray} (h : a.data.toList = b.data.toList) : a = b := ByteArray.ext (Array.toList_inj.1 h)
theorem ba_beq (a b : ByteArray) : (a == b) = true ↔ a = b := by
  rw [beq_toListBytes, beq_iff_eq, ByteArray.toList_eq, ByteArray.toList_eq]
  exact ⟨ba_ext, fun h => by rw [h]⟩
theorem eqf_step {P : Program} {w : World} {d : Nat} {xs ys : Array Value} {f : Field} {fs : List Field} {a b : Value} {r s : Bool} (hn : f.name ≠ "_") (ha : (part f.type xs f.offset).run P w = .ok a w) (hb : (part f.type ys f.offset).run P w = .ok b w)
    (he : (Op.equalIn d f.type a b).run P w = .ok r w) (hr : (Op.eqFields d xs ys fs).run P w = .ok s w) : (Op.eqFields d xs ys (f :: fs)).run P w = .ok (r && s) w := by
  rw [Op.eqFields, if_pos hn]
  simp only [Sem.run_bind, ha, hb, he, Result.andThen_ok]
  cases r
  · simp
  · simpa using hr
theorem eqf_nil {P : Program} {w : World} {d : Nat} {xs ys : Array Value} : (Op.eqFields d xs ys []).run P w = .ok true w := by simp [Op.eqFields]
theorem sizeByte (w : World) : (sizeOf 5).run Try.prog w = .ok 1 w := by
  obtain ⟨i, hi, _, hs, _⟩ := info_parts infoByte
  simp [sizeOf, typeInfo, hi, hs]
theorem run_equalIn_hash (d : Nat) : (Op.equalIn (d + 2) 46 h.val k.val).run Try.prog w = .ok (h == k) w := by
  have := run_equalIn_bytes (P := Try.prog) w d 46 5 32 Try.underlying46 Try.underlying5 sizeByte h.l k.l h.h k.h
  have e : (bv : UInt8 → Value) = Extern.Stop.cell := rfl
  unfold GHash.val GHash.cells
  rw [e]
  refine this.trans ?_
  congr 1
  rw [Bool.eq_iff_iff]
  simp only [beq_iff_eq]
  exact ⟨fun e => by cases h; cases k; simp_all, fun e => by rw [e]⟩
theorem fsIdent : (Try.prog.fieldsOf 72).toList = [⟨"Node", 46, 0, false, "", "", 0⟩, ⟨"Op", 3, 32, false, "", "", 32⟩] := by kernel_rfl
theorem fsOp : (Try.prog.fieldsOf 74).toList = [⟨"Kind", 3, 0, false, "", "", 0⟩, ⟨"Key", 9, 1, false, "", "", 8⟩, ⟨"Text", 9, 2, false, "", "", 24⟩, ⟨"N", 2, 3, false, "", "", 40⟩, ⟨"At", 72, 4, false, "", "", 48⟩] := by kernel_rfl
theorem stIdent : Try.prog.stoodInHeld 72 = false := Try.stoodInHeld72
theorem stOp : Try.prog.stoodInHeld 74 = false := Try.stoodInHeld74
theorem unIdent : Try.prog.underlying 72 = some (.struct (Try.prog.fieldsOf 72)) := by simp [Program.fieldsOf, Try.underlying72]
theorem unOp : Try.prog.underlying 74 = some (.struct (Try.prog.fieldsOf 74)) := by simp [Program.fieldsOf, Try.underlying74]
theorem egOp : Try.prog.eqGuardType Try.prog.depth 74 = false := Try.eqGuardType74
theorem egIdent : Try.prog.eqGuardType Try.prog.depth 72 = false := Try.eqGuardType72
theorem egHash : Try.prog.eqGuardType Try.prog.depth 46 = false := Try.eqGuardType46
theorem run_equalIn_ident (d : Nat) : (Op.equalIn (d + 3) 72 a.val b.val).run Try.prog w = .ok (a == b) w := by
  have h1 := run_part_row rtHash w a.cells.toArray 0
  have h2 := run_part_row rtHash w b.cells.toArray 0
  rw [Nat.zero_add, GIdent.extract0] at h1 h2
  have h3 := run_equalIn_hash a.node b.node w d
  have h4 : ∀ x : GIdent, (part 3 x.cells.toArray 32).run Try.prog w = .ok (.int .i64 x.op) w := fun x => by
    simp [part, isAgg, run_underlying Try.underlying3, GIdent.cells, GHash.cells_length, List.getElem?_append_right]
  have h5 := run_equalIn_int (P := Try.prog) w (d + 1) 3 .i64 .i64 a.op b.op Try.underlying3
  unfold GHash.val at h3
  unfold GIdent.val
  rw [run_equalIn_struct w (d + 2) 72 _ _ unIdent stIdent, fsIdent]
  have ha : (a == b) = ((a.node == b.node) && ((a.op == b.op) && true)) := by
    rw [Bool.eq_iff_iff]
    simp only [beq_iff_eq, Bool.and_eq_true, and_true]
    exact ⟨fun e => by rw [e]; exact ⟨rfl, rfl⟩, fun e => by cases a; cases b; simp_all⟩
  rw [ha]
  exact eqf_step (f := ⟨"Node", 46, 0, false, "", "", 0⟩) (by simp) h1 h2 h3 (eqf_step (f := ⟨"Op", 3, 32, false, "", "", 32⟩) (by simp) (h4 a) (h4 b) h5 eqf_nil)
theorem run_equalIn_op (d : Nat) : (Op.equalIn (d + 4) 74 o.val p.val).run Try.prog w = .ok (o == p) w := by
  have h1 := run_part_row rtIdent w o.cells.toArray 4
  have h2 := run_part_row rtIdent w p.cells.toArray 4
  rw [show 4 + 33 = 37 from rfl, GOp.extract4] at h1 h2
  have h3 := run_equalIn_ident o.at_ p.at_ w d
  have k0 : ∀ x : GOp, (part 3 x.cells.toArray 0).run Try.prog w = .ok (.int .i64 x.kind) w := fun x => by simp [part, isAgg, run_underlying Try.underlying3, GOp.cells]
  have k1 : ∀ x : GOp, (part 9 x.cells.toArray 1).run Try.prog w = .ok (.string x.key) w := fun x => by simp [part, isAgg, run_underlying Try.underlying9, GOp.cells]
  have k2 : ∀ x : GOp, (part 9 x.cells.toArray 2).run Try.prog w = .ok (.string x.text) w := fun x => by simp [part, isAgg, run_underlying Try.underlying9, GOp.cells]
  have k3 : ∀ x : GOp, (part 2 x.cells.toArray 3).run Try.prog w = .ok (.int .i64 x.n) w := fun x => by simp [part, isAgg, run_underlying Try.underlying2, GOp.cells]
  have e0 := run_equalIn_int (P := Try.prog) w (d + 2) 3 .i64 .i64 o.kind p.kind Try.underlying3
  have e1 := run_equalIn_string (P := Try.prog) w (d + 2) 9 o.key p.key Try.underlying9
  have e2 := run_equalIn_string (P := Try.prog) w (d + 2) 9 o.text p.text Try.underlying9
  have e3 := run_equalIn_int (P := Try.prog) w (d + 2) 2 .i64 .i64 o.n p.n Try.underlying2
  rw [← beq_toListBytes] at e1 e2
  unfold GIdent.val at h3
  unfold GOp.val
  rw [run_equalIn_struct w (d + 3) 74 _ _ unOp stOp, fsOp]
  have ha : (o == p) = ((o.kind == p.kind) && ((o.key == p.key) && ((o.text == p.text) && ((o.n == p.n) && ((o.at_ == p.at_) && true))))) := by
    rw [Bool.eq_iff_iff]
    simp only [beq_iff_eq, Bool.and_eq_true, and_true]
    rw [ba_beq, ba_beq]
    exact ⟨fun e => by rw [e]; simp, fun ⟨e0, e1, e2, e3, e4⟩ => by cases o; cases p; simp_all⟩
  rw [ha]
  exact eqf_step (f := ⟨"Kind", 3, 0, false, "", "", 0⟩) (by simp) (k0 o) (k0 p) e0 (eqf_step (f := ⟨"Key", 9, 1, false, "", "", 8⟩) (by simp) (k1 o) (k1 p) e1 (eqf_step (f := ⟨"Text", 9, 2, false, "", "", 24⟩) (by simp) (k2 o) (k2 p) e2 (eqf_step (f := ⟨"N", 2, 3, false, "", "", 40⟩) (by simp) (k3 o) (k3 p) e3
    (eqf_step (f := ⟨"At", 72, 4, false, "", "", 48⟩) (by simp) h1 h2 h3 eqf_nil))))
variable (x y : Operand)
@[go_sem ↓] theorem run_guard_op (op : BinOp) : (eqGuard op 74 x y o.val p.val).run Try.prog w = .ok () w := run_eqGuard_agg w op _ x y _ _ egOp
@[go_sem ↓] theorem run_guard_ident (op : BinOp) : (eqGuard op 72 x y a.val b.val).run Try.prog w = .ok () w := run_eqGuard_agg w op _ x y _ _ egIdent
@[go_sem ↓] theorem run_guard_hash (op : BinOp) : (eqGuard op 46 x y h.val k.val).run Try.prog w = .ok () w := run_eqGuard_agg w op _ x y _ _ egHash
@[go_sem ↓] theorem run_eql_op : (binOp .eql 74 o.val p.val).run Try.prog w = .ok (.bool (o == p)) w := by
  have := run_equalIn_op o p w 9996
  unfold GOp.val at this ⊢
  rw [run_eql_struct, this]; rfl
@[go_sem ↓] theorem run_neq_op : (binOp .neq 74 o.val p.val).run Try.prog w = .ok (.bool (!(o == p))) w := by
  have := run_equalIn_op o p w 9996
  unfold GOp.val at this ⊢
  rw [run_neq_struct, this]; rfl
@[go_sem ↓] theorem run_eql_ident : (binOp .eql 72 a.val b.val).run Try.prog w = .ok (.bool (a == b)) w := by
  have := run_equalIn_ident a b w 9997
  unfold GIdent.val at this ⊢
  rw [run_eql_struct, this]; rfl
@[go_sem ↓] theorem run_neq_ident : (binOp .neq 72 a.val b.val).run Try.prog w = .ok (.bool (!(a == b))) w := by
  have := run_equalIn_ident a b w 9997
  unfold GIdent.val at this ⊢
  rw [run_neq_struct, this]; rfl
@[go_sem ↓] theorem run_eql_hash : (binOp .eql 46 h.val k.val).run Try.prog w = .ok (.bool (h == k)) w := by
  have := run_equalIn_hash h k w 9998
  unfold GHash.val at this ⊢
  rw [run_eql_struct, this]; rfl
@[go_sem ↓] theorem run_neq_hash : (binOp .neq 46 h.val k.val).run Try.prog w = .ok (.bool (!(h == k))) w := by
  have := run_equalIn_hash h k w 9998
  unfold GHash.val at this ⊢
  rw [run_neq_struct, this]; rfl
end
/-! ### zero values, written out by the program -/
theorem zero_hash : Value.agg #[.int .u8 0, .int .u8 0, .int .u8 0, .int .u8 0, .int .u8 0, .int .u8 0, .int .u8 0, .int .u8 0, .int .u8 0, .int .u8 0, .int .u8 0, .int .u8 0, .int .u8 0, .int .u8 0, .int .u8 0, .int .u8 0, .int .u8 0, .int .u8 0, .int .u8 0, .int .u8 0, .int .u8 0, .int .u8 0, .int .u8 0, .int .u8 0, .int .u8 0, .int .u8 0, .int .u8 0, .int .u8 0, .int .u8 0, .int .u8 0, .int .u8 0, .int .u8 0] = GHash.zero.val := rfl
theorem zero_ident : Value.agg #[.int .u8 0, .int .u8 0, .int .u8 0, .int .u8 0, .int .u8 0, .int .u8 0, .int .u8 0, .int .u8 0, .int .u8 0, .int .u8 0, .int .u8 0, .int .u8 0, .int .u8 0, .int .u8 0, .int .u8 0, .int .u8 0, .int .u8 0, .int .u8 0, .int .u8 0, .int .u8 0, .int .u8 0, .int .u8 0, .int .u8 0, .int .u8 0, .int .u8 0, .int .u8 0, .int .u8 0, .int .u8 0, .int .u8 0, .int .u8 0, .int .u8 0, .int .u8 0, .int .i64 0] = GIdent.zero.val := rfl
theorem zero_op : Value.agg #[.int .i64 0, .string ⟨#[]⟩, .string ⟨#[]⟩, .int .i64 0, .int .u8 0, .int .u8 0, .int .u8 0, .int .u8 0, .int .u8 0, .int .u8 0, .int .u8 0, .int .u8 0, .int .u8 0, .int .u8 0, .int .u8 0, .int .u8 0, .int .u8 0, .int .u8 0, .int .u8 0, .int .u8 0, .int .u8 0, .int .u8 0, .int .u8 0, .int .u8 0, .int .u8 0, .int .u8 0, .int .u8 0, .int .u8 0, .int .u8 0, .int .u8 0, .int .u8 0, .int .u8 0, .int .u8 0, .int .u8 0, .int .u8 0, .int .u8 0, .int .i64 0] = GOp.zero.val := rfl
section
variable (h : GHash) (a : GIdent) (w : World) (x y : Operand) (op : BinOp)
@[go_sem ↓] theorem run_guard_hash0 : (eqGuard op 46 x y h.val (.agg #[.int .u8 0, .int .u8 0, .int .u8 0, .int .u8 0, .int .u8 0, .int .u8 0, .int .u8 0, .int .u8 0, .int .u8 0, .int .u8 0, .int .u8 0, .int .u8 0, .int .u8 0, .int .u8 0, .int .u8 0, .int .u8 0, .int .u8 0, .int .u8 0, .int .u8 0, .int .u8 0, .int .u8 0, .int .u8 0, .int .u8 0, .int .u8 0, .int .u8 0, .int .u8 0, .int .u8 0, .int .u8 0, .int .u8 0, .int .u8 0, .int .u8 0, .int .u8 0])).run Try.prog w = .ok () w := run_guard_hash h GHash.zero w x y op
@[go_sem ↓] theorem run_guard_ident0 : (eqGuard op 72 x y a.val (.agg #[.int .u8 0, .int .u8 0, .int .u8 0, .int .u8 0, .int .u8 0, .int .u8 0, .int .u8 0, .int .u8 0, .int .u8 0, .int .u8 0, .int .u8 0, .int .u8 0, .int .u8 0, .int .u8 0, .int .u8 0, .int .u8 0, .int .u8 0, .int .u8 0, .int .u8 0, .int .u8 0, .int .u8 0, .int .u8 0, .int .u8 0, .int .u8 0, .int .u8 0, .int .u8 0, .int .u8 0, .int .u8 0, .int .u8 0, .int .u8 0, .int .u8 0, .int .u8 0, .int .i64 0])).run Try.prog w = .ok () w := run_guard_ident a GIdent.zero w x y op
@[go_sem ↓] theorem run_eql_hash0 : (binOp .eql 46 h.val (.agg #[.int .u8 0, .int .u8 0, .int .u8 0, .int .u8 0, .int .u8 0, .int .u8 0, .int .u8 0, .int .u8 0, .int .u8 0, .int .u8 0, .int .u8 0, .int .u8 0, .int .u8 0, .int .u8 0, .int .u8 0, .int .u8 0, .int .u8 0, .int .u8 0, .int .u8 0, .int .u8 0, .int .u8 0, .int .u8 0, .int .u8 0, .int .u8 0, .int .u8 0, .int .u8 0, .int .u8 0, .int .u8 0, .int .u8 0, .int .u8 0, .int .u8 0, .int .u8 0])).run Try.prog w = .ok (.bool (h == GHash.zero)) w := run_eql_hash h GHash.zero w
@[go_sem ↓] theorem run_neq_hash0 : (binOp .neq 46 h.val (.agg #[.int .u8 0, .int .u8 0, .int .u8 0, .int .u8 0, .int .u8 0, .int .u8 0, .int .u8 0, .int .u8 0, .int .u8 0, .int .u8 0, .int .u8 0, .int .u8 0, .int .u8 0, .int .u8 0, .int .u8 0, .int .u8 0, .int .u8 0, .int .u8 0, .int .u8 0, .int .u8 0, .int .u8 0, .int .u8 0, .int .u8 0, .int .u8 0, .int .u8 0, .int .u8 0, .int .u8 0, .int .u8 0, .int .u8 0, .int .u8 0, .int .u8 0, .int .u8 0])).run Try.prog w = .ok (.bool (!(h == GHash.zero))) w := run_neq_hash h GHash.zero w
@[go_sem ↓] theorem run_eql_ident0 : (binOp .eql 72 a.val (.agg #[.int .u8 0, .int .u8 0, .int .u8 0, .int .u8 0, .int .u8 0, .int .u8 0, .int .u8 0, .int .u8 0, .int .u8 0, .int .u8 0, .int .u8 0, .int .u8 0, .int .u8 0, .int .u8 0, .int .u8 0, .int .u8 0, .int .u8 0, .int .u8 0, .int .u8 0, .int .u8 0, .int .u8 0, .int .u8 0, .int .u8 0, .int .u8 0, .int .u8 0, .int .u8 0, .int .u8 0, .int .u8 0, .int .u8 0, .int .u8 0, .int .u8 0, .int .u8 0, .int .i64 0])).run Try.prog w = .ok (.bool (a == GIdent.zero)) w := run_eql_ident a GIdent.zero w
end
/-! ### operations in memory -/
def HashAt (w : World) (q off : Nat) (h : GHash) : Prop := CellsAt w q off h.cells
def IdAt (w : World) (q off : Nat) (a : GIdent) : Prop := CellsAt w q off a.cells
def OpAt (w : World) (q off : Nat) (o : GOp) : Prop := CellsAt w q off o.cells
section
variable {w w' : World} {q off : Nat} {h : GHash} {a : GIdent} {o : GOp} {S : List Nat}
theorem IdAt.node (H : IdAt w q off a) : HashAt w q off a.node := fun i u hu => H i u (by
  unfold GIdent.cells
  rw [List.getElem?_append_left (List.getElem?_eq_some_iff.1 hu).1]
  exact hu)
theorem IdAt.op (H : IdAt w q off a) : w.cell? ⟨q, off + 32, none⟩ = some (.int .i64 a.op) := H 32 _ (by
  unfold GIdent.cells
  rw [List.getElem?_append_right (by rw [GHash.cells_length]; omega), GHash.cells_length]
  rfl)
theorem OpAt.at_ (H : OpAt w q off o) : IdAt w q (off + 4) o.at_ := fun i u hu => by
  have := H (4 + i) u (by unfold GOp.cells; rw [show 4 + i = i + 1 + 1 + 1 + 1 by omega]; simpa using hu)
  rwa [← Nat.add_assoc] at this
theorem OpAt.kind (H : OpAt w q off o) : w.cell? ⟨q, off, none⟩ = some (.int .i64 o.kind) := H 0 _ rfl
theorem OpAt.key (H : OpAt w q off o) : w.cell? ⟨q, off + 1, none⟩ = some (.string o.key) := H 1 _ rfl
theorem OpAt.text (H : OpAt w q off o) : w.cell? ⟨q, off + 2, none⟩ = some (.string o.text) := H 2 _ rfl
theorem OpAt.n (H : OpAt w q off o) : w.cell? ⟨q, off + 3, none⟩ = some (.int .i64 o.n) := H 3 _ rfl
theorem OpAt.op (H : OpAt w q off o) : w.cell? ⟨q, off + 36, none⟩ = some (.int .i64 o.at_.op) := H.at_.op
end
/-- an operation in a variable of its own: all that a walk reads of it -/
def OpV (w : World) (q : Nat) (o : GOp) : Prop := Blk w q 74 o.cells.toArray
def IdV (w : World) (q : Nat) (a : GIdent) : Prop := Blk w q 72 a.cells.toArray
theorem OpV.open_ {w : World} {q : Nat} {o : GOp} (h : OpV w q o) : w.cell? ⟨q, 0, none⟩ = some (.int .i64 o.kind) ∧ w.cell? ⟨q, 1, none⟩ = some (.string o.key) ∧ w.cell? ⟨q, 2, none⟩ = some (.string o.text) ∧ w.cell? ⟨q, 3, none⟩ = some (.int .i64 o.n) ∧
    w.cell? ⟨q, 36, none⟩ = some (.int .i64 o.at_.op) ∧ Hid (OpAt w q 0 o) ∧ Hid (IdAt w q 4 o.at_) ∧ Hid (HashAt w q 4 o.at_.node) := by
  have h1 : OpAt w q 0 o := CellsAt.of_blk h
  have h2 := h1.at_
  have h3 := h1.key
  have h4 := h1.text
  have h5 := h1.n
  have h6 := h1.op
  rw [Nat.zero_add] at h2 h3 h4 h5 h6
  exact ⟨h1.kind, h3, h4, h5, h6, Lib.hid h1, Lib.hid h2, Lib.hid h2.node⟩
theorem IdV.open_ {w : World} {q : Nat} {a : GIdent} (h : IdV w q a) : w.cell? ⟨q, 32, none⟩ = some (.int .i64 a.op) ∧ Hid (IdAt w q 0 a) ∧ Hid (HashAt w q 0 a.node) := by
  have h1 : IdAt w q 0 a := CellsAt.of_blk h
  have h2 := h1.op
  rw [Nat.zero_add] at h2
  exact ⟨h2, Lib.hid h1, Lib.hid h1.node⟩
section
variable {ops : Array Oper} {rest : List Oper} {op : Oper} {a : Act} {w : World} {Q : Exit → Act → World → Prop}
theorem wpList_box_op (x : Operand) (ho : op.op = .box 74 x) (hgd : Region.wanted op (yielded ops a.tmps) = true) {o : GOp} (hx : a.eval x = o.val)
    (h : ∀ q w1, OpV w1 q o → Mod [] w w1 → w.heap.size ≤ q → q < w1.heap.size → wpList Try.prog ops Q rest (a.put op.dst (.pointer (some ⟨q, 0, none⟩))) w1) : wpList Try.prog ops Q (op :: rest) a w :=
  wpList_box x ho hgd hx h
theorem wpList_box_ident (x : Operand) (ho : op.op = .box 72 x) (hgd : Region.wanted op (yielded ops a.tmps) = true) {o : GIdent} (hx : a.eval x = o.val)
    (h : ∀ q w1, IdV w1 q o → Mod [] w w1 → w.heap.size ≤ q → q < w1.heap.size → wpList Try.prog ops Q rest (a.put op.dst (.pointer (some ⟨q, 0, none⟩))) w1) : wpList Try.prog ops Q (op :: rest) a w :=
  wpList_box x ho hgd hx h
theorem wpList_load_op (x : Operand) (ho : op.op = .load 74 x) (hgd : Region.wanted op (yielded ops a.tmps) = true) {b k : Nat} {o : GOp} (H : OpAt w b k o) (hx : a.eval x = .pointer (some ⟨b, k, none⟩))
    (h : wpList Try.prog ops Q rest (a.put op.dst o.val) w) : wpList Try.prog ops Q (op :: rest) a w :=
  wpList_load_cells rtOp x ho hgd hx o.cells_length H h
theorem wpList_load_ident (x : Operand) (ho : op.op = .load 72 x) (hgd : Region.wanted op (yielded ops a.tmps) = true) {b k : Nat} {o : GIdent} (H : IdAt w b k o) (hx : a.eval x = .pointer (some ⟨b, k, none⟩))
    (h : wpList Try.prog ops Q rest (a.put op.dst o.val) w) : wpList Try.prog ops Q (op :: rest) a w :=
  wpList_load_cells rtIdent x ho hgd hx o.cells_length H h
theorem wpList_load_hash (x : Operand) (ho : op.op = .load 46 x) (hgd : Region.wanted op (yielded ops a.tmps) = true) {b k : Nat} {o : GHash} (H : HashAt w b k o) (hx : a.eval x = .pointer (some ⟨b, k, none⟩))
    (h : wpList Try.prog ops Q rest (a.put op.dst o.val) w) : wpList Try.prog ops Q (op :: rest) a w :=
  wpList_load_cells rtHash x ho hgd hx o.cells_length H h
theorem wpList_store_op (x y : Operand) (ho : op.op = .store 74 x y) (hgd : Region.wanted op (yielded ops a.tmps) = true) {g : Nat} {o : GOp} {old : Array Value} (hx : a.eval x = .pointer (some ⟨g, 0, none⟩)) (hy : a.eval y = o.val) (hb : Blk w g 74 old) (hold : old.size = 37)
    (h : ∀ w', OpV w' g o → Mod [g] w w' → wpList Try.prog ops Q rest (a.put op.dst undef) w') : wpList Try.prog ops Q (op :: rest) a w :=
  wpList_store_blk rtOp x y ho hgd hx hy hb o.cells_length hold o.one h
end
/-! ### an operation in memory, as a region that draws its order reads it -/
theorem OpAt.uniq {w : World} {q k : Nat} {o p : GOp} (h : OpAt w q k o) (h' : OpAt w q k p) : o = p := by
  have e : ∀ i : Nat, i < 37 → o.cells[i]? = p.cells[i]? := fun i hi => by
    have h1 : i < o.cells.length := by rw [o.cells_length]; exact hi
    have h2 : i < p.cells.length := by rw [p.cells_length]; exact hi
    rw [List.getElem?_eq_getElem h1, List.getElem?_eq_getElem h2, ← h i _ (List.getElem?_eq_getElem h1), ← h' i _ (List.getElem?_eq_getElem h2)]
  have el : o.cells = p.cells := List.ext_getElem? fun i => by
    by_cases hi : i < 37
    · exact e i hi
    · rw [List.getElem?_eq_none (by rw [o.cells_length]; omega), List.getElem?_eq_none (by rw [p.cells_length]; omega)]
  obtain ⟨k1, ky1, t1, n1, ⟨⟨h1, hh1⟩, i1⟩⟩ := o
  obtain ⟨k2, ky2, t2, n2, ⟨⟨h2, hh2⟩, i2⟩⟩ := p
  simp only [GOp.cells, GIdent.cells, GHash.cells, List.cons.injEq, Value.int.injEq, Value.string.injEq, true_and] at el
  obtain ⟨e0, e1, e2, e3, e4⟩ := el
  obtain ⟨e5, e6⟩ := List.append_inj e4 (by simp [hh1, hh2])
  have e7 := (List.map_inj_right (f := bv) (fun a b hab => by simp only [Value.int.injEq, true_and] at hab; exact UInt8.toNat_inj.1 (by omega))).1 e5
  simp only [List.cons.injEq, Value.int.injEq, true_and, and_true] at e6
  subst e0 e1 e2 e3 e6 e7
  rfl
def OpIn (w : World) (q k : Nat) : Prop := ∃ o, OpAt w q k o
open Classical in
@[irreducible] noncomputable def opOf (w : World) (q k : Nat) : GOp := if h : ∃ o, OpAt w q k o then h.choose else GOp.zero
theorem OpAt.in_ {w : World} {q k : Nat} {o : GOp} (h : OpAt w q k o) : OpIn w q k ∧ opOf w q k = o := by
  refine ⟨⟨o, h⟩, ?_⟩
  unfold opOf
  have hx : ∃ o, OpAt w q k o := ⟨o, h⟩
  rw [dif_pos hx]
  exact hx.choose_spec.uniq h
@[irreducible] def loadOp (x : Value) : Sem Value := Instr.loadAt 74 x
@[go_sem ↓] theorem loadAt_op (x : Value) : Instr.loadAt 74 x = loadOp x := by unfold loadOp; rfl
@[go_sem ↓] theorem run_loadOp {w : World} {q k : Nat} (h : OpIn w q k) : (loadOp (.pointer (some ⟨q, k, none⟩))).run Try.prog w = .ok (opOf w q k).val w := by
  obtain ⟨o, ho⟩ := h
  rw [ho.in_.2]
  obtain ⟨d, h1, h2, h3⟩ := rtOp
  unfold loadOp
  exact run_loadAt_mid w q k _ o.cells d ho h1 h2 (by rw [h3, o.cells_length])
/-! ### a store of a whole operation, as a region that draws its order meets it -/
def OpSpace (w : World) (q : Nat) : Prop := ∃ cs, Blk w q 74 cs ∧ cs.size = 37
@[irreducible] def World.setOp (w : World) (q : Nat) (o : GOp) : World := w.setRow q o.cells.toArray
@[irreducible] def storeOp (x y : Value) : Sem Unit := Instr.storeAt 74 x y
@[go_sem ↓] theorem storeAt_op (x y : Value) : Instr.storeAt 74 x y = storeOp x y := by unfold storeOp; rfl
theorem OpSpace.blk {w : World} {q : Nat} (h : OpSpace w q) (o : GOp) : Blk (World.setOp w q o) q 74 o.cells.toArray := by
  obtain ⟨cs, hb, hs⟩ := h
  unfold World.setOp
  exact setRow_heap w q cs _ _ _ hb
@[go_sem ↓] theorem run_storeOp {w : World} {q : Nat} {o : GOp} (h : OpSpace w q) : (storeOp (.pointer (some ⟨q, 0, none⟩)) o.val).run Try.prog w = .ok () (World.setOp w q o) := by
  obtain ⟨cs, hb, hs⟩ := h
  obtain ⟨d, _, _, h3⟩ := rtOp
  unfold storeOp World.setOp
  simp only [Instr.storeAt, Instr.sureAddr, Sem.run_bind, Sem.run_pure, Result.andThen_ok]
  exact run_storeVar_row w q 74 74 cs o.cells.toArray hb (by rw [h3]; simp [o.cells_length]) (by simp [hs, o.cells_length]) (all_oneCell_toArray o.one)
theorem Mod.setOp {S : List Nat} {a w : World} (h : Mod S a w) (q : Nat) (o : GOp) (hp : q ∈ S ∨ a.heap.size ≤ q) : Mod S a (World.setOp w q o) := by
  unfold World.setOp
  exact h.setRow q _ hp
@[go_sem] theorem setOp_size (w : World) (q : Nat) (o : GOp) : (World.setOp w q o).heap.size = w.heap.size := by unfold World.setOp; simp
@[go_sem] theorem space_new (w : World) : OpSpace (w.alloc (.cells GOp.zero.cells.toArray 74)) w.heap.size := ⟨_, Blk.new w _ _, by simp [GOp.cells_length]⟩
/-- a slice that reads as operations -/
abbrev OS (w : World) (g : Nat) (v : Value) (l : List GOp) : Prop := RS w 37 g v l.length (l.flatMap GOp.cells)
theorem OS.item {w : World} {g : Nat} {v : Value} {l : List GOp} (h : OS w g v l) (h0 : 0 < l.length) :
    ∃ off cap, v = .slice (some ⟨g, off, none⟩) l.length cap ∧ l.length ≤ cap ∧ cap ≤ maxLen ∧ g < w.heap.size ∧ ∀ (i : Nat) (hi : i < l.length), OpAt w g (off + i * 37) l[i] := RS.item GOp.cells_length h h0
end Go.Proofs.Ytlpjeckhejbkkaa
end

section
set_option linter.unusedVariables false
set_option linter.unusedSimpArgs false
set_option maxRecDepth 20000
set_option maxHeartbeats 400000
namespace Go.Proofs.Ytlpjeckhejbkkaa
open Go.RowKit

theorem ret_int {k : IntKind} {a b : Int} (h : a = b) : Ending.returned (.int k a) = .returned (.int k b) := by rw [h]
theorem ret_bool {a b : Bool} (h : a = b) : Ending.returned (.bool a) = .returned (.bool b) := by rw [h]
theorem cell_any (k : Int) (w : World) : Calls Try.prog 75 #[.int .i64 k] w fun e w' => e = .returned (.int .i64 (cellOf k)) ∧ w = w' := by
  go_enter Try.func75, Try.ntmps75
  go_wp2
  all_goals
    go_ret
    refine ⟨ret_int ?_, rfl⟩
    simp_all [cellOf]
theorem known_any (k : Int) (w : World) : Calls Try.prog 74 #[.int .i64 k] w fun e w' => e = .returned (.bool (known k)) ∧ w = w' := by
  go_enter Try.func74, Try.ntmps74
  go_wp2
  all_goals
    go_ret
    refine ⟨ret_bool ?_, rfl⟩
    simp_all [known] <;> omega
theorem same_any (a b : GOp) (w : World) : Calls Try.prog 37 #[a.val, b.val] w fun e w' => e = .returned (.bool (a == b)) ∧ Mod [] w w' := by
  go_enter Try.func37, Try.ntmps37
  go_wp2_with (first | (refine wpList_box_op _ rfl rfl (o := a) rfl ?_; intro q1 w1 hv1 hm1 hq1 hl1; have HV1 := Lib.hid hv1; have HM1 := Lib.hid hm1; clear hv1 hm1) | (refine wpList_box_op _ rfl rfl (o := b) rfl ?_; intro q2 w2 hv2 hm2 hq2 hl2; have HA : Hid (OpAt w2 q1 0 a) := Lib.hid (CellsAt.of_blk (HV1.out.mod hm2 (by simp))); have HB : Hid (OpAt w2 q2 0 b) := Lib.hid (CellsAt.of_blk hv2); have HM2 := Lib.hid hm2; clear hv2 hm2) | (refine wpList_load_op _ rfl rfl HA.out rfl ?_) | (refine wpList_load_op _ rfl rfl HB.out rfl ?_))
  go_ret
  exact ⟨rfl, HM1.out.trans HM2.out⟩
theorem zero_any (a : GIdent) (w : World) : Calls Try.prog 77 #[a.val] w fun e w' => e = .returned (.bool (a == GIdent.zero)) ∧ Mod [] w w' := by
  go_enter Try.func77, Try.ntmps77
  go_wp2_with (first | (refine wpList_box_ident _ rfl rfl (o := a) rfl ?_; intro q1 w1 hv1 hm1 hq1 hl1; obtain ⟨c32, HA0, HH0⟩ := hv1.open_; have HM1 := Lib.hid hm1; clear hv1 hm1) | (refine wpList_load_hash _ rfl rfl HH0.out rfl ?_))
  all_goals
    go_ret
    refine ⟨ret_bool ?_, HM1.out⟩
    rw [Bool.eq_iff_iff]
    obtain ⟨n, i⟩ := a
    simp_all [GIdent.zero]
theorem hasText_any (k : Int) (w : World) : Calls Try.prog 71 #[.int .i64 k] w fun e w' => e = .returned (.bool (hasText k)) ∧ w = w' := by
  go_enter Try.func71, Try.ntmps71
  go_wp2
  all_goals
    go_ret
    refine ⟨ret_bool ?_, rfl⟩
    simp_all [hasText]
theorem hasAt_any (k : Int) (w : World) : Calls Try.prog 73 #[.int .i64 k] w fun e w' => e = .returned (.bool (hasAt k)) ∧ w = w' := by
  go_enter Try.func73, Try.ntmps73
  go_wp2
  all_goals
    go_ret
    refine ⟨ret_bool ?_, rfl⟩
    simp_all [hasAt]
theorem op_beq_iff (a b : GOp) : (a == b) = true ↔ a.kind = b.kind ∧ a.key.toList = b.key.toList ∧ a.text.toList = b.text.toList ∧ a.n = b.n ∧ a.at_.op = b.at_.op ∧ a.at_.node = b.at_.node := by
  rw [beq_iff_eq]
  exact ⟨fun e => by rw [e]; simp, fun ⟨e0, e1, e2, e3, e4, e5⟩ => by
    obtain ⟨k, ky, t, n, ⟨h, i⟩⟩ := a
    obtain ⟨k', ky', t', n', ⟨h', i'⟩⟩ := b
    simp only at e1 e2
    rw [ByteArray.toList_eq, ByteArray.toList_eq] at e1 e2
    have := ba_ext e1
    have := ba_ext e2
    simp_all⟩
theorem refSame_any (a b : GOp) (w : World) : Calls Try.prog 29 #[a.val, b.val] w fun e w' => e = .returned (.bool (a == b)) ∧ Mod [] w w' := by
  go_enter Try.func29, Try.ntmps29
  go_wp2_with (first | ((with_reducible refine wpList_box_op _ rfl ?hgd (o := a) ?hx ?_); (case hgd => exact rfl); (case hx => exact rfl); intro q1 w1 hv1 hm1 hq1 hl1; have HV1 := Lib.hid hv1; have HM1 := Lib.hid hm1; clear hv1 hm1) | ((with_reducible refine wpList_box_op _ rfl ?hgd (o := b) ?hx ?_); (case hgd => exact rfl); (case hx => exact rfl); intro q2 w2 hv2 hm2 hq2 hl2; obtain ⟨c0, c1, c2, c3, c36, HA0, HA4, HH4⟩ := OpV.open_ (HV1.out.mod hm2 (by simp)); obtain ⟨d0, d1, d2, d3, d36, HB0, HB4, HG4⟩ := hv2.open_; have HM2 := Lib.hid hm2; clear hv2 hm2) | ((with_reducible refine wpList_load_hash _ rfl ?hgd HH4.out ?hx ?_); (case hgd => exact rfl); (case hx => exact rfl)) | ((with_reducible refine wpList_load_hash _ rfl ?hgd HG4.out ?hx ?_); (case hgd => exact rfl); (case hx => exact rfl)))
  all_goals
    go_ret
    refine ⟨ret_bool ?_, HM1.out.trans HM2.out⟩
    rw [Bool.eq_iff_iff, op_beq_iff]
    simp_all

theorem op_in {w w' : World} {S : List Nat} {q off : Nat} {o : GOp} (h : OpAt w q off o) (hm : Mod S w w') (hq : q ∉ S) : OpAt w' q off o := CellsAt.mod h hm hq
theorem ident_ne {a : GIdent} (h : (a == GIdent.zero) = false) : a ≠ GIdent.zero := by simpa using h
theorem atMay_zero {l : List GOp} {o : GOp} (h : (o.at_ == GIdent.zero) = true) : atMay l o = (o.kind == 8) := by
  have h := beq_iff_eq.1 h
  unfold atMay
  rw [h]
  simp [GIdent.zero]
theorem atMay_far {l : List GOp} {o : GOp} (h : (!o.at_.node == GHash.zero) = true) : atMay l o = decide (1 ≤ o.at_.op ∧ o.at_.op ≤ 1024) := by
  unfold atMay
  rw [if_neg (by simpa using h)]
theorem atMay_out {l : List GOp} {o : GOp} (h0 : (o.at_ == GIdent.zero) = false) (h : (!o.at_.node == GHash.zero) = false) (h1 : ¬ (1 ≤ o.at_.op ∧ o.at_.op ≤ l.length)) : atMay l o = false := by
  unfold atMay
  rw [if_pos (by simpa using h), if_neg, if_neg h1]
  intro e
  obtain ⟨k, ky, t, n, ⟨h, i⟩⟩ := o
  simp_all [GIdent.zero]
theorem atMay_in {l : List GOp} {o x : GOp} {j : Nat} (h : (!o.at_.node == GHash.zero) = false) (h1 : o.at_.op = (j : Int) + 1) (hj : j < l.length) (hx : l[j]? = some x) : atMay l o = (x.kind == 8 && x.key.toList == o.key.toList) := by
  unfold atMay
  rw [if_pos (by simpa using h), if_neg (by omega), if_pos (by omega), h1]
  have : ((j : Int) + 1 - 1).toNat = j := by omega
  rw [this, hx, ← beq_toListBytes]
/-- right -/
theorem right_any (l : List GOp) (o : GOp) (g : Nat) (v : Value) (w : World) (hs : OS w g v l) :
    Calls Try.prog 76 #[v, o.val] w fun e w' => e = .returned (.bool (atMay l o)) ∧ Mod [] w w' := by
  by_cases hin : 1 ≤ o.at_.op ∧ o.at_.op ≤ l.length
  · obtain ⟨j, hj⟩ : ∃ j : Nat, o.at_.op = (j : Int) + 1 := ⟨(o.at_.op - 1).toNat, by omega⟩
    have hjl : j < l.length := by omega
    obtain ⟨off, cap, rfl, h1, h2, _, hit⟩ := hs.item (by omega)
    have HJ0 := Lib.hid (hit j hjl)
    have HE : Hid (l[j]? = some l[j]) := Lib.hid (by simp [hjl])
    have HW : Hid (o.at_.op = (j : Int) + 1) := Lib.hid hj
    have hjb : j ≤ 9223372036854775806 := by unfold maxLen at h2; omega
    clear hit hin hs hj h1 h2
    go_enter Try.func76, Try.ntmps76
    go_wp2_with (first | ((with_reducible refine wpList_box_op _ rfl ?hgd (o := o) ?hx ?_); (case hgd => exact rfl); (case hx => exact rfl); intro q1 w1 hv1 hm1 hq1 hl1; obtain ⟨c0, c1, c2, c3, c36, HA0, HA4, HH4⟩ := hv1.open_; rw [HW.out] at c36; have HJ := Lib.hid (op_in HJ0.out hm1 (by simp)); have HM1 := Lib.hid hm1; clear hv1 hm1) | ((with_reducible refine wpList_load_ident _ rfl ?hgd HA4.out ?hx ?_); (case hgd => exact rfl); (case hx => exact rfl)) | ((with_reducible refine wpList_load_hash _ rfl ?hgd HH4.out ?hx ?_); (case hgd => exact rfl); (case hx => exact rfl)) | ((with_reducible refine wpList_load_op _ rfl ?hgd HJ.out ?hx ?_); (case hgd => exact rfl); (case hx => exact rfl)) | ((with_reducible refine wpList_store_op (o := l[j]) _ _ rfl ?hgd ?hx ?hy (Blk.new _ _ _) ?hold ?_); (case hgd => exact rfl); (case hx => exact rfl); (case hy => exact rfl); (case hold => exact rfl); intro w2 hv2 hm2; obtain ⟨d0, d1, d2, d3, d36, HB0, HB4, HG4⟩ := hv2.open_; have hm3 := ((Mod.refl [w1.heap.size] w1).alloc _).trans hm2; have e1 := hm3.cell (p := ⟨q1, 1, none⟩) hl1 (by simp; omega); rw [c1] at e1; have HM2 := Lib.hid hm3; clear hm2 hm3 hv2 c0 c1 c2 c3 c36 HA0 HA4 HH4))
    all_goals
      go_ret
      first
        | (refine ⟨ret_bool ?_, HM1.out⟩
           first | (rw [atMay_zero (by assumption)]) | (rw [atMay_far (by assumption), Bool.eq_iff_iff, HW.out]; simp only [decide_eq_true_eq, Bool.false_eq_true, false_iff]; omega))
        | (refine ⟨ret_bool ?_, HM1.out.then HM2.out (by simp; have := HM1.out.size; omega)⟩
           rw [atMay_in (by assumption) HW.out (by assumption) HE.out]
           simp_all)
        | trace_state
  · obtain ⟨A, cap, rfl, _, _⟩ := hs.val
    clear hs
    have HIN := Lib.hid hin
    go_enter Try.func76, Try.ntmps76
    go_wp2_with (first | ((with_reducible refine wpList_box_op _ rfl ?hgd (o := o) ?hx ?_); (case hgd => exact rfl); (case hx => exact rfl); intro q1 w1 hv1 hm1 hq1 hl1; obtain ⟨c0, c1, c2, c3, c36, HA0, HA4, HH4⟩ := hv1.open_; have HM1 := Lib.hid hm1; clear hv1 hm1) | ((with_reducible refine wpList_load_ident _ rfl ?hgd HA4.out ?hx ?_); (case hgd => exact rfl); (case hx => exact rfl)) | ((with_reducible refine wpList_load_hash _ rfl ?hgd HH4.out ?hx ?_); (case hgd => exact rfl); (case hx => exact rfl)))
    all_goals
      go_ret
      refine ⟨ret_bool ?_, HM1.out⟩
      first | (rw [atMay_zero (by assumption)]) | (rw [atMay_far (by assumption), Bool.eq_iff_iff]; simp only [decide_eq_true_eq, Bool.false_eq_true, false_iff]; omega) | (rw [atMay_out (by assumption) (by assumption) HIN.out]) | trace_state
end Go.Proofs.Ytlpjeckhejbkkaa
end

section
set_option linter.unusedVariables false
set_option linter.unusedSimpArgs false
set_option maxRecDepth 20000
set_option maxHeartbeats 400000
namespace Go.Proofs.Ytlpjeckhejbkkaa
open Go.RowKit

theorem wrap_u64_nat (a : Nat) (h : a < 18446744073709551616) : IntKind.u64.wrap (a : Int) = (a : Int) := by
  simp [IntKind.wrap, IntKind.bits, IntKind.signed]
  omega
theorem wrap_u8_nat (a : Nat) : IntKind.u8.wrap (a : Int) = ((a % 256 : Nat) : Int) := by
  simp [IntKind.wrap, IntKind.bits, IntKind.signed]
theorem and_u8_127 (c : Nat) (h : c < 256) : bits .and .u8 (c : Int) 127 = ((c % 128 : Nat) : Int) := by
  have H : ∀ c : Nat, c < 256 → bits .and .u8 (c : Int) 127 = ((c % 128 : Nat) : Int) := by decide +kernel
  exact H c h
theorem or_u8_128 (c : Nat) (h : c < 256) : bits .or .u8 (c : Int) 128 = ((c % 128 + 128 : Nat) : Int) := by
  have H : ∀ c : Nat, c < 256 → bits .or .u8 (c : Int) 128 = ((c % 128 + 128 : Nat) : Int) := by decide +kernel
  exact H c h
theorem ofInt_u64 (a : Nat) (ha : a < 18446744073709551616) : (BitVec.ofInt 64 (a : Int)).toNat = a := by
  rw [BitVec.ofInt_natCast, BitVec.toNat_ofNat]; exact Nat.mod_eq_of_lt (by omega)
theorem or_u64_nat (a b : Nat) (ha : a < 18446744073709551616) (hb : b < 18446744073709551616) : bits .or .u64 (a : Int) (b : Int) = ((a ||| b : Nat) : Int) := by
  have hx : a ||| b < 2 ^ 64 := Nat.or_lt_two_pow (by omega) (by omega)
  show IntKind.u64.wrap ((BitVec.ofInt 64 (a : Int) ||| BitVec.ofInt 64 (b : Int)).toNat : Int) = _
  rw [BitVec.toNat_or, ofInt_u64 a ha, ofInt_u64 b hb, wrap_u64_nat _ (by omega)]
theorem xor_u64_nat (a b : Nat) (ha : a < 18446744073709551616) (hb : b < 18446744073709551616) : bits .xor .u64 (a : Int) (b : Int) = ((a ^^^ b : Nat) : Int) := by
  have hx : a ^^^ b < 2 ^ 64 := Nat.xor_lt_two_pow (by omega) (by omega)
  show IntKind.u64.wrap ((BitVec.ofInt 64 (a : Int) ^^^ BitVec.ofInt 64 (b : Int)).toNat : Int) = _
  rw [BitVec.toNat_xor, ofInt_u64 a ha, ofInt_u64 b hb, wrap_u64_nat _ (by omega)]
theorem pow128 (k : Nat) : 2 ^ (7 * k) = 128 ^ k := by rw [Nat.pow_mul]
theorem seven_lt (k d : Nat) (hk : k ≤ 9) (hd : d < 128) (h9 : k = 9 → d ≤ 1) : d * 128 ^ k < 18446744073709551616 := by
  match k, hk with
  | 0, _ | 1, _ | 2, _ | 3, _ | 4, _ | 5, _ | 6, _ | 7, _ | 8, _ => simp; omega
  | 9, _ => have := h9 rfl; simp; omega
theorem seven_next (k acc d : Nat) (ha : acc < 128 ^ k) (hd : d < 128) : acc + d * 128 ^ k < 128 ^ (k + 1) := by
  rw [Nat.pow_succ]
  have h : (d + 1) * 128 ^ k ≤ 128 * 128 ^ k := Nat.mul_le_mul_right _ (by omega)
  rw [Nat.add_mul, Nat.one_mul] at h
  rw [Nat.mul_comm (128 ^ k) 128]
  omega
/-- a number's next seven bits, as Go lays them beside those that it has -/
theorem or_seven (k acc c : Nat) (hk : k ≤ 9) (ha : acc < 128 ^ k) (hc : c < 256) (h9 : k = 9 → c ≤ 1) :
    bits .or .u64 (acc : Int) (IntKind.u64.wrap (IntKind.u64.wrap (bits .and .u8 (c : Int) 127) * 2 ^ (7 * k))) = ((acc + c % 128 * 128 ^ k : Nat) : Int) := by
  have hd : c % 128 < 128 := Nat.mod_lt _ (by omega)
  have hlt := seven_lt k (c % 128) hk hd (fun h => by have := h9 h; omega)
  have hacc : acc < 18446744073709551616 := by
    have h := seven_lt k 1 hk (by omega) (fun _ => by omega)
    omega
  rw [and_u8_127 c hc, wrap_u64_nat (c % 128) (by omega)]
  have e : ((c % 128 : Nat) : Int) * 2 ^ (7 * k) = ((c % 128 * 128 ^ k : Nat) : Int) := by
    rw [← pow128 k]; simp
  rw [e, wrap_u64_nat _ hlt, or_u64_nat _ _ hacc hlt]
  have h := Nat.two_pow_add_eq_or_of_lt (i := 7 * k) (b := acc) (by rw [pow128]; exact ha) (c % 128)
  rw [pow128] at h
  rw [Nat.or_comm, Nat.mul_comm, ← h]
  congr 1
  omega

theorem and_u64_1 (x : Nat) (h : x < 18446744073709551616) : bits .and .u64 (x : Int) 1 = ((x % 2 : Nat) : Int) := by
  show IntKind.u64.wrap ((BitVec.ofInt 64 (x : Int) &&& BitVec.ofInt 64 1).toNat : Int) = _
  rw [BitVec.toNat_and, ofInt_u64 x h]
  have e : (BitVec.ofInt 64 1).toNat = 2 ^ 1 - 1 := by decide
  rw [e, Nat.and_two_pow_sub_one_eq_mod, wrap_u64_nat _ (by omega)]
theorem wrap64_small (n : Int) (h1 : -9223372036854775808 ≤ n) (h2 : n ≤ 9223372036854775807) : wrap64 n = n := by unfold wrap64; omega
theorem xor_i64_zero (h : Nat) (hh : h < 9223372036854775808) : bits .xor .i64 (h : Int) 0 = (h : Int) := by
  show IntKind.i64.wrap ((BitVec.ofInt 64 (h : Int) ^^^ BitVec.ofInt 64 0).toNat : Int) = _
  rw [BitVec.toNat_xor, ofInt_u64 h (by omega)]
  have e : (BitVec.ofInt 64 0).toNat = 0 := by decide
  rw [e, Nat.xor_zero]
  simp [IntKind.wrap, IntKind.bits, IntKind.signed]
  omega
theorem xor_i64_neg (h : Nat) (hh : h < 9223372036854775808) : bits .xor .i64 (h : Int) (-1) = -(h : Int) - 1 := by
  show IntKind.i64.wrap ((BitVec.ofInt 64 (h : Int) ^^^ BitVec.ofInt 64 (-1)).toNat : Int) = _
  have e : BitVec.ofInt 64 (-1) = BitVec.allOnes 64 := by decide
  rw [e, BitVec.xor_allOnes, BitVec.toNat_not, ofInt_u64 h (by omega)]
  simp [IntKind.wrap, IntKind.bits, IntKind.signed]
  omega
/-- a signed number out of a number, as Go makes it -/
theorem zag_bits (x : Nat) (hx : x < 18446744073709551616) : bits .xor .i64 ((x : Int) / 2) (wrap64 (-(wrap64 (bits .and .u64 (x : Int) 1)))) = zag x := by
  rw [and_u64_1 x hx]
  have hh : x / 2 < 9223372036854775808 := by omega
  have e1 : (x : Int) / 2 = ((x / 2 : Nat) : Int) := by omega
  rw [e1, wrap64_small ((x % 2 : Nat) : Int) (by omega) (by omega)]
  unfold zag
  by_cases h : x % 2 = 0
  · rw [if_pos h, h, wrap64_small (-((0 : Nat) : Int)) (by omega) (by omega)]
    exact xor_i64_zero _ hh
  · have h1 : x % 2 = 1 := by omega
    rw [if_neg h, h1, wrap64_small (-((1 : Nat) : Int)) (by omega) (by omega)]
    exact xor_i64_neg _ hh

theorem wrap_u64_int (x : Int) : IntKind.u64.wrap x = x % 18446744073709551616 := by
  simp [IntKind.wrap, IntKind.bits, IntKind.signed]
/-- a number out of a signed one, as Go makes it -/
theorem zig_bits (x : Int) (h0 : -9223372036854775808 ≤ x) (h1 : x ≤ 9223372036854775807) :
    bits .xor .u64 (IntKind.u64.wrap (IntKind.u64.wrap x * 2)) (IntKind.u64.wrap (x / 9223372036854775808)) = ((zig x : Nat) : Int) ∧ zig x < 18446744073709551616 := by
  simp only [wrap_u64_int]
  unfold zig
  by_cases h : 0 ≤ x
  · have e1 : x % 18446744073709551616 * 2 % 18446744073709551616 = ((2 * x.toNat : Nat) : Int) := by omega
    have e2 : x / 9223372036854775808 % 18446744073709551616 = ((0 : Nat) : Int) := by omega
    rw [e1, e2, if_pos h, xor_u64_nat _ _ (by omega) (by omega), Nat.xor_zero]
    exact ⟨rfl, by omega⟩
  · have e1 : x % 18446744073709551616 * 2 % 18446744073709551616 = ((18446744073709551616 - 2 * (-x).toNat : Nat) : Int) := by omega
    have e2 : x / 9223372036854775808 % 18446744073709551616 = ((18446744073709551615 : Nat) : Int) := by omega
    rw [e1, e2, if_neg h, xor_u64_nat _ _ (by omega) (by omega)]
    have e3 : ∀ a : Nat, a < 18446744073709551616 → a ^^^ 18446744073709551615 = 18446744073709551615 - a := by
      intro a ha
      have h2 := BitVec.toNat_not (x := BitVec.ofNat 64 a)
      rw [← BitVec.xor_allOnes, BitVec.toNat_xor, BitVec.toNat_ofNat, BitVec.toNat_allOnes, Nat.mod_eq_of_lt ha] at h2
      simpa using h2
    rw [e3 _ (by omega)]
    constructor <;> omega

/-! ### steps of numAt -/
theorem numAt_end (acc : Nat) (l : Bytes) : numAt 10 acc l = (0, 0, 22) := by cases l <;> simp [numAt]
theorem numAt_nil {k acc : Nat} (hk : k < 10) : numAt k acc [] = (0, 0, 20) := by rw [numAt, if_neg (by omega)]
theorem numAt_over {acc : Nat} {c : UInt8} {r : Bytes} (h : 1 < c.toNat) : numAt 9 acc (c :: r) = (0, 0, 22) := by rw [numAt, if_neg (by omega), if_pos ⟨rfl, h⟩]
theorem numAt_long {k acc : Nat} {c : UInt8} {r : Bytes} (hk : k < 10) (h : c.toNat = 0) (h0 : 0 < k) : numAt k acc (c :: r) = (0, 0, 21) := by
  rw [numAt, if_neg (by omega), if_neg (by omega), if_pos (by omega), if_pos ⟨h, h0⟩]
theorem numAt_done {k acc : Nat} {c : UInt8} {r : Bytes} (hk : k < 10) (h9 : ¬ (k = 9 ∧ 1 < c.toNat)) (h : c.toNat < 128) (h0 : ¬ (c.toNat = 0 ∧ 0 < k)) : numAt k acc (c :: r) = (acc + c.toNat * 128 ^ k, k + 1, 0) := by
  rw [numAt, if_neg (by omega), if_neg h9, if_pos h, if_neg h0]
theorem numAt_next {k acc : Nat} {c : UInt8} {r : Bytes} (hk : k < 10) (h9 : ¬ (k = 9 ∧ 1 < c.toNat)) (h : ¬ c.toNat < 128) : numAt k acc (c :: r) = numAt (k + 1) (acc + c.toNat % 128 * 128 ^ k) r := by
  rw [numAt, if_neg (by omega), if_neg h9, if_neg h]
/-- what a number's reading can come to -/
theorem numAt_bounds (l : Bytes) : ∀ (k acc : Nat), k ≤ 10 → acc < 128 ^ k →
    ((numAt k acc l).2.2 = 0 ∧ (numAt k acc l).1 < 18446744073709551616 ∧ k < (numAt k acc l).2.1 ∧ (numAt k acc l).2.1 ≤ k + l.length ∧ (numAt k acc l).2.1 ≤ 10) ∨
    ((numAt k acc l).2.2 = 20 ∨ (numAt k acc l).2.2 = 21 ∨ (numAt k acc l).2.2 = 22) ∧ (numAt k acc l).1 = 0 ∧ (numAt k acc l).2.1 = 0 := by
  induction l with
  | nil =>
    intro k acc hk ha
    by_cases h10 : k = 10
    · subst h10; rw [numAt_end]; simp
    · rw [numAt_nil (by omega)]; simp
  | cons c r ih =>
    intro k acc hk ha
    by_cases h10 : k = 10
    · subst h10; rw [numAt_end]; simp
    by_cases h9 : k = 9 ∧ 1 < c.toNat
    · obtain ⟨rfl, h9⟩ := h9; rw [numAt_over h9]; simp
    by_cases h : c.toNat < 128
    · by_cases h0 : c.toNat = 0 ∧ 0 < k
      · rw [numAt_long (by omega) h0.1 h0.2]; simp
      · rw [numAt_done (by omega) h9 h h0]
        left
        have hb := seven_next k acc c.toNat ha h
        have hl := seven_lt k c.toNat (by omega) h (fun e => by omega)
        refine ⟨rfl, ?_, Nat.lt_succ_self _, by simp, by simp; omega⟩
        show acc + c.toNat * 128 ^ k < _
        by_cases e : k = 9
        · subst e
          have : c.toNat ≤ 1 := by omega
          have h2 : c.toNat * 128 ^ 9 ≤ 1 * 128 ^ 9 := Nat.mul_le_mul_right _ this
          omega
        · have hp : 128 ^ (k + 1) ≤ 128 ^ 9 := Nat.pow_le_pow_right (by omega) (by omega)
          omega
    · rw [numAt_next (by omega) h9 h]
      have hd : c.toNat % 128 < 128 := Nat.mod_lt _ (by omega)
      rcases ih (k + 1) _ (by omega) (seven_next k acc _ ha hd) with ⟨a1, a2, a3, a4, a5⟩ | hr
      · left
        refine ⟨a1, a2, by omega, by simp only [List.length_cons]; omega, a5⟩
      · exact .inr hr
end Go.Proofs.Ytlpjeckhejbkkaa
end

section
set_option linter.unusedVariables false
set_option linter.unusedSimpArgs false
set_option maxRecDepth 20000
set_option maxHeartbeats 400000
namespace Go.Proofs.Ytlpjeckhejbkkaa
open Go.RowKit

theorem ret_nums {k1 k2 k3 : IntKind} {a b c a' b' c' : Int} (ha : a = a') (hb : b = b') (hc : c = c') :
    Ending.returned (.tuple #[.int k1 a, .int k2 b, .int k3 c]) = .returned (.tuple #[.int k1 a', .int k2 b', .int k3 c']) := by rw [ha, hb, hc]

set_option maxHeartbeats 800000 in
theorem number_any (g : Nat) (xs : Bytes) (v : Value) (w : World) (hs : RS w 1 g v xs.length (xs.map bv)) :
    Calls Try.prog 86 #[v] w fun e w' => e = .returned (.tuple #[.int .u64 (numAt 0 0 xs).1, .int .i64 (numAt 0 0 xs).2.1, .int .i64 (numAt 0 0 xs).2.2]) ∧ w = w' := by
  obtain ⟨A, cap, rfl, hn, hc⟩ := hs.val
  clear hc
  go_enter Try.func86, Try.ntmps86
  go_wp2
  go_loop [5, 8] (fun x i => ∃ (k acc : Nat), k ≤ 10 ∧ k ≤ xs.length ∧ Hid (acc < 128 ^ k) ∧ i = .int .i64 k ∧ x = .int .u64 acc ∧ Hid (numAt k acc (xs.drop k) = numAt 0 0 xs)) (fun _ i => 10 - (intOf i).toNat)
  case atStart => exact ⟨0, 0, by omega, by omega, Lib.hid (by omega), rfl, rfl, Lib.hid rfl⟩
  case round =>
    obtain ⟨k, acc, hk, hkl, hacc, rfl, rfl, hnum⟩ := hrel
    by_cases h10 : k = 10
    · subst h10
      have HN : Hid (numAt 0 0 xs = (0, 0, 22)) := Lib.hid (hnum.out.symm.trans (numAt_end _ _))
      go_wp2
      go_ret3
      exact ⟨ret_nums (by rw [HN.out]; rfl) (by rw [HN.out]; rfl) (by rw [HN.out]; rfl), rfl⟩
    · by_cases hlen : k < xs.length
      · obtain ⟨off, cap', hv, hn', hc', hg, hcell⟩ := hs.at_ (by omega)
        obtain ⟨c, hcl, hcx0, HC⟩ : ∃ c : Nat, c < 256 ∧ w.cell? ⟨g, off + k, none⟩ = some (.int .u8 (c : Int)) ∧ Hid (xs[k].toNat = c) :=
          ⟨xs[k].toNat, xs[k].toNat_lt, hcell k (bv xs[k]) (by rw [List.getElem?_map, List.getElem?_eq_getElem hlen]; rfl), Lib.hid rfl⟩
        obtain ⟨rfl, rfl⟩ : A = some ⟨g, off, none⟩ ∧ cap = cap' := by injection hv with h1 h2 h3; exact ⟨h1, h3⟩
        clear hcell hv hc' hn' hg
        have HD : Hid (numAt k acc (xs[k] :: xs.drop (k + 1)) = numAt 0 0 xs) := Lib.hid (by rw [← List.drop_eq_getElem_cons hlen]; exact hnum.out)
        by_cases h9 : k = 9 ∧ 1 < c
        · obtain ⟨rfl, h1⟩ := h9
          have HN : Hid (numAt 0 0 xs = (0, 0, 22)) := Lib.hid (HD.out.symm.trans (numAt_over (by rw [HC.out]; exact h1)))
          go_wp2
          go_ret3
          exact ⟨ret_nums (by rw [HN.out]; rfl) (by rw [HN.out]; rfl) (by rw [HN.out]; rfl), rfl⟩
        · have HB : Hid (bits .or .u64 (acc : Int) (IntKind.u64.wrap (IntKind.u64.wrap (bits .and .u8 (c : Int) 127) * 2 ^ (7 * k))) = ((acc + c % 128 * 128 ^ k : Nat) : Int)) :=
            Lib.hid (or_seven k acc c (by omega) hacc.out hcl (by omega))
          by_cases h128 : c < 128
          · by_cases h0 : c = 0 ∧ 0 < k
            · obtain ⟨rfl, h0⟩ := h0
              have HN : Hid (numAt 0 0 xs = (0, 0, 21)) := Lib.hid (HD.out.symm.trans (numAt_long (by omega) HC.out h0))
              go_wp2
              all_goals
                go_ret3
                exact ⟨ret_nums (by rw [HN.out]; rfl) (by rw [HN.out]; rfl) (by rw [HN.out]; rfl), rfl⟩
            · have HN : Hid (numAt 0 0 xs = (acc + c * 128 ^ k, k + 1, 0)) := Lib.hid (HD.out.symm.trans (by
                rw [numAt_done (by omega) (by rw [HC.out]; exact h9) (by rw [HC.out]; exact h128) (by rw [HC.out]; exact h0), HC.out]))
              have HM : Hid (c % 128 = c) := Lib.hid (Nat.mod_eq_of_lt h128)
              by_cases hc0 : c = 0
              · obtain rfl : k = 0 := by omega
                obtain rfl : acc = 0 := by have := hacc.out; omega
                subst hc0
                have hcx1 : w.cell? ⟨g, off, none⟩ = some (.int .u8 0) := hcx0
                clear hcx0
                have hne : ¬ xs = [] := by rintro rfl; simp at hlen
                go_wp2
                all_goals
                  go_ret3
                  exact ⟨ret_nums (by rw [HN.out]; decide) (by rw [HN.out]; rfl) (by rw [HN.out]; rfl), rfl⟩
              by_cases hk9 : k = 9
              · subst hk9
                have HP : Hid ((2 : Int) ^ (7 * 9) = 9223372036854775808) := Lib.hid (by decide)
                go_wp2
                all_goals
                  go_ret3
                  exact ⟨ret_nums (by rw [← HP.out, HB.out, HN.out, HM.out]) (by rw [HN.out]; rfl) (by rw [HN.out]; rfl), rfl⟩
              · go_wp2
                all_goals
                  go_ret3
                  exact ⟨ret_nums (by rw [HB.out, HN.out, HM.out]) (by rw [HN.out]; rfl) (by rw [HN.out]; rfl), rfl⟩
          · have hk9 : ¬ k = 9 := by omega
            have HE : Hid (numAt (k + 1) (acc + c % 128 * 128 ^ k) (xs.drop (k + 1)) = numAt 0 0 xs) := Lib.hid (by
              rw [← HD.out, numAt_next (by omega) (by rw [HC.out]; exact h9) (by rw [HC.out]; exact h128), HC.out])
            have HS : Hid (acc + c % 128 * 128 ^ k < 128 ^ (k + 1)) := Lib.hid (seven_next k acc _ hacc.out (Nat.mod_lt _ (by omega)))
            go_wp2
            go_round
            case rel => exact ⟨k + 1, acc + c % 128 * 128 ^ k, by omega, by omega, HS, by go_num, by rw [HB.out], HE⟩
            case measure => simp [intOf]; omega
      · have HN : Hid (numAt 0 0 xs = (0, 0, 20)) := Lib.hid (hnum.out.symm.trans (by rw [List.drop_eq_nil_of_le (by omega), numAt_nil (by omega)]))
        go_wp2
        go_ret3
        exact ⟨ret_nums (by rw [HN.out]; rfl) (by rw [HN.out]; rfl) (by rw [HN.out]; rfl), rfl⟩
end Go.Proofs.Ytlpjeckhejbkkaa
end

section
set_option linter.unusedVariables false
set_option linter.unusedSimpArgs false
set_option maxRecDepth 20000
set_option maxHeartbeats 400000
namespace Go.Proofs.Ytlpjeckhejbkkaa
open Go.RowKit

abbrev ptr (p : Nat) : Value := .pointer (some ⟨p, 0, none⟩)
def badV (q : Nat) : Value := .iface 60 (ptr q)
def BadAt (w : World) (q : Nat) (why at_ : Int) : Prop := Blk w q 62 #[.int .i64 why, .int .i64 at_]
/-- a reader: its struct, its bytes, where it stands, its error -/
def InB (w : World) (p g : Nat) (xs : Bytes) (at_ : Int) (e : Value) : Prop :=
  ∃ v, Blk w p 90 #[v, .int .i64 at_, e] ∧ RS w 1 g v xs.length (xs.map bv) ∧ (0 < xs.length → g ≠ p)
section
variable {w w' : World} {p g : Nat} {xs : Bytes} {at_ : Int} {e : Value}
theorem InB.cells (h : InB w p g xs at_ e) :
   ∃ A cap, w.cell? ⟨p, 0, none⟩ = some (.slice A xs.length cap) ∧ w.cell? ⟨p, 1, none⟩ = some (.int .i64 at_) ∧ w.cell? ⟨p, 2, none⟩ = some e ∧
   w.frozen? ⟨p, 0, none⟩ = false ∧ w.frozen? ⟨p, 1, none⟩ = false ∧ w.frozen? ⟨p, 2, none⟩ = false ∧ p < w.heap.size ∧
   RS w 1 g (.slice A xs.length cap) xs.length (xs.map bv) ∧ (0 < xs.length → g ≠ p) ∧ xs.length ≤ cap ∧ cap ≤ 9223372036854775807 := by
  obtain ⟨v, hb, hr, hne⟩ := h
  obtain ⟨A, cap, rfl, h1, h2⟩ := hr.val
  exact ⟨A, cap, hb.cell 0, hb.cell 1, hb.cell 2, hb.frozen 0, hb.frozen 1, hb.frozen 2, hb.lt, hr, hne, h1, h2⟩
theorem InB.mod {S : List Nat} (h : InB w p g xs at_ e) (hm : Mod S w w') (hp : p ∉ S) (hg : 0 < xs.length → g ∉ S) : InB w' p g xs at_ e := by
  obtain ⟨v, hb, hr, hne⟩ := h
  exact ⟨v, hb.mod hm hp, hr.mod hm hg, hne⟩
theorem InB.set1 {m : Int} (h : InB w p g xs at_ e) : InB (w.setCell ⟨p, 1, none⟩ (.int .i64 m)) p g xs m e := by
  obtain ⟨v, hb, hr, hne⟩ := h
  exact ⟨v, hb.set_ 1 _, hr.mod ((Mod.refl [p] w).setCell _ (by simp) _) (by simpa using hne), hne⟩
theorem InB.set2 {e' : Value} (h : InB w p g xs at_ e) : InB (w.setCell ⟨p, 2, none⟩ e') p g xs at_ e' := by
  obtain ⟨v, hb, hr, hne⟩ := h
  exact ⟨v, hb.set_ 2 _, hr.mod ((Mod.refl [p] w).setCell _ (by simp) _) (by simpa using hne), hne⟩
theorem InB.drewN (h : InB w p g xs at_ e) (k : Nat) : InB (w.drewN k) p g xs at_ e := h
theorem InB.alloc (h : InB w p g xs at_ e) (o : Obj) : InB (w.alloc o) p g xs at_ e := by
  obtain ⟨v, hb, hr, hne⟩ := h
  exact ⟨v, hb.alloc o, hr.mod ((Mod.refl [] w).alloc o) (by simp), hne⟩
theorem InB.lt (h : InB w p g xs at_ e) : p < w.heap.size := by
  obtain ⟨v, hb, _⟩ := h
  exact hb.lt
end

theorem fail_any (why at_ : Int) (p g : Nat) (xs : Bytes) (w : World) (n0 : Int) (e : Value) (hI : InB w p g xs n0 e) :
    Calls Try.prog 69 #[ptr p, .int .i64 why, .int .i64 at_] w fun e' w' => e' = .returned (badV w.heap.size) ∧ BadAt w' w.heap.size why at_ ∧ InB w' p g xs at_ (badV w.heap.size) ∧ Mod [p] w w' := by
  obtain ⟨A, cap, h0, h1, h2, f0, f1, f2, hl, _, _, _, _⟩ := hI.cells
  go_enter Try.func69, Try.ntmps69
  go_wp2
  go_ret
  have hb := Blk.new ((w.setCell ⟨p, 2, none⟩ (badV w.heap.size)).setCell ⟨p, 1, none⟩ (.int .i64 at_)) 62 #[.int .i64 why, .int .i64 at_]
  simp only [World.size_setCell] at hb
  exact ⟨rfl, hb, (hI.set2.set1).alloc _, (((Mod.refl [p] w).setCell _ (by simp) _).setCell _ (by simp) _).alloc _⟩

theorem next_err (n : Int) (p g : Nat) (xs : Bytes) (w : World) (n0 : Int) (q : Nat) (hI : InB w p g xs n0 (badV q)) :
    Calls Try.prog 85 #[ptr p, .int .i64 n] w fun e' w' => e' = .returned (.tuple #[.slice none 0 0, badV q]) ∧ ∃ k, w.drewN k = w' := by
  obtain ⟨A, cap, h0, h1, h2, f0, f1, f2, hl, _, _, _, _⟩ := hI.cells
  unfold badV at h2
  go_enter Try.func85, Try.ntmps85
  go_wp2
  go_quiet (fail)
  go_wp2
  go_ret2
  exact ⟨rfl, _, rfl⟩
theorem next_short (n : Int) (p g : Nat) (xs : Bytes) (w : World) (n0 : Nat) (hI : InB w p g xs n0 .nilIface) (hn0 : n0 ≤ xs.length) (h2 : xs.length < n0 + n) :
    Calls Try.prog 85 #[ptr p, .int .i64 n] w fun e' w' => ∃ q, e' = .returned (.tuple #[.slice none 0 0, badV q]) ∧ BadAt w' q 20 n0 ∧ InB w' p g xs n0 (badV q) ∧ Mod [p] w w' ∧ w.heap.size ≤ q := by
  obtain ⟨A, cap, h0, h1, h2, f0, f1, f2, hl, _, _, _, _⟩ := hI.cells
  go_enter Try.func85, Try.ntmps85
  go_wp2
  go_quiet (fail)
  go_wp2_with fail
  refine (fail_any _ _ p g xs _ _ _ (hI.drewN _)).mono ?_
  rintro e' w1 ⟨rfl, hb, hI1, hm⟩
  go_wp2
  go_ret2
  refine ⟨w.heap.size, rfl, hb, hI1, ?_, Nat.le_refl _⟩
  exact (Mod.of_drewN _ w _).trans hm
def NextOk (w : World) (p g : Nat) (xs : Bytes) (n0 n : Nat) (e' : Ending) (w' : World) : Prop :=
  ∃ v, e' = .returned (.tuple #[v, .nilIface]) ∧ RS w' 1 g v n (((xs.drop n0).take n).map bv) ∧ InB w' p g xs (n0 + n : Nat) .nilIface ∧ Mod [p] w w'
theorem next_ok (n : Nat) (p g : Nat) (xs : Bytes) (w : World) (n0 : Nat) (hI : InB w p g xs n0 .nilIface) (hn : n0 + n ≤ xs.length) :
    Calls Try.prog 85 #[ptr p, .int .i64 n] w (NextOk w p g xs n0 n) := by
  obtain ⟨A, cap, h0, h1, h2, f0, f1, f2, hl, hr, hgp, hlc, hcm⟩ := hI.cells
  have HI := Lib.hid hI; clear hI
  have HR := Lib.hid hr; clear hr
  go_enter Try.func85, Try.ntmps85
  go_wp2
  go_quiet (fail)
  go_wp2_with fail
  go_quiet (fail)
  go_wp2_with fail
  all_goals
    go_ret2
    have hm : ∀ k m, Mod [p] w (((w.drewN k).setCell ⟨p, 1, none⟩ (.int .i64 ((n0 : Int) + n))).drewN m) := fun k m => (((Mod.refl [p] w).drewN k).setCell _ (by simp) _).drewN m
    have hr' : ∀ k m, RS (((w.drewN k).setCell ⟨p, 1, none⟩ (.int .i64 ((n0 : Int) + n))).drewN m) 1 g (.slice A xs.length cap) xs.length (xs.map bv) := fun k m => HR.out.mod (hm k m) (by simpa using hgp)
    have hi : ∀ k m, InB (((w.drewN k).setCell ⟨p, 1, none⟩ (.int .i64 ((n0 : Int) + n))).drewN m) p g xs (n0 + n : Nat) .nilIface := fun k m => (((HI.out.drewN k).set1).drewN m)
    refine ⟨_, rfl, ?_, hi _ _, hm _ _⟩
    rw [List.map_take, List.map_drop]
    exact (hr' _ _).cut1 (by omega) (by omega) (by unfold maxLen; omega) (by intro h; first | rfl | omega)

/-- what a reading answers -/
def RdP {α : Type} (w : World) (p g : Nat) (xs : Bytes) (r : Rd α) (val : α → Value) (z : Value) (e' : Ending) (w' : World) : Prop :=
  match r with
  | .ok a pos => e' = .returned (.tuple #[val a, .nilIface]) ∧ InB w' p g xs pos .nilIface ∧ Mod [p] w w'
  | .bad why at_ => ∃ q, e' = .returned (.tuple #[z, badV q]) ∧ BadAt w' q why at_ ∧ InB w' p g xs at_ (badV q) ∧ Mod [p] w w' ∧ w.heap.size ≤ q

def NewInP (w : World) (xs : Bytes) (e' : Ending) (w' : World) : Prop :=
  ∃ p g', e' = .returned (ptr p) ∧ InB w' p g' xs 0 .nilIface ∧ Mod [] w w' ∧ w.heap.size ≤ p ∧ (0 < xs.length → w.heap.size ≤ g')
theorem newIn_any (sv : Value) (g : Nat) (xs : Bytes) (w : World) (hs : RS w 1 g sv xs.length (xs.map bv)) (hz : xs.length ≤ 140737488355328) :
    Calls Try.prog 26 #[sv] w (NewInP w xs) := by
  have HS := Lib.hid hs; clear hs
  go_enter Try.func26, Try.ntmps26
  go_wp2_with (at_builtin; refine wpList_append_bytes rfl _ _ rfl (OwnB.nil w) rfl HS.out rfl ?_ ?hz; intro A1 n1 cap1 w1 hown hn1 hm1 hf1)
  case hz => simp; omega
  go_ret
  obtain ⟨g', hr, hg⟩ := hown.bs
  simp only [List.nil_append] at hr hg
  have hb := Blk.new w1 90 #[.slice A1 n1 cap1, .int .i64 0, .nilIface]
  have hlt := hown.lt
  refine ⟨w1.heap.size, g', rfl, ⟨_, hb, hr.mod ((Mod.refl [] w1).alloc _) (by simp), fun h => ?_⟩, (hm1.mono (by simp [blks, Value.ownBlock])).alloc _, hm1.size, fun h => ?_⟩
  · have := hlt _ (hg h); omega
  · rcases hf1.out _ (hg h) with h1 | h1
    · simp [blks, Value.ownBlock] at h1
    · omega
theorem quietv {P : Program} {f : FuncId} {args : Array Value} {w : World} {v : Value} {n : Nat} (h : Calls P f args w fun e w' => e = .returned v ∧ w.drewN n = w') : Calls P f args w fun e w' => e = .returned v ∧ ∃ k, w.drewN k = w' :=
  h.mono fun _ _ ⟨a, b⟩ => ⟨a, _, b⟩
theorem at_any (p g : Nat) (xs : Bytes) (w : World) (n0 : Int) (e : Value) (hI : InB w p g xs n0 e) :
    Calls Try.prog 48 #[ptr p] w fun e' w' => e' = .returned (.int .i64 n0) ∧ w = w' := by
  obtain ⟨A, cap, h0, h1, h2, f0, f1, f2, hl, _, _, _, _⟩ := hI.cells
  go_enter Try.func48, Try.ntmps48
  go_wp2
  go_ret
  exact ⟨rfl, rfl⟩
theorem left_any (p g : Nat) (xs : Bytes) (w : World) (n0 : Nat) (e : Value) (hI : InB w p g xs n0 e) (hn : n0 ≤ xs.length) :
    Calls Try.prog 103 #[ptr p] w fun e' w' => e' = .returned (.int .i64 (xs.length - n0 : Nat)) ∧ ∃ k, w.drewN k = w' := by
  obtain ⟨A, cap, h0, h1, h2, f0, f1, f2, hl, _, _, _, _⟩ := hI.cells
  have HE : Hid (((xs.length - n0 : Nat) : Int) = xs.length - n0) := Lib.hid (by omega)
  rw [HE.out]
  go_enter Try.func103, Try.ntmps103
  go_wp2
  go_quiet (fail)
  go_wp2
  go_ret
  exact ⟨rfl, _, rfl⟩
theorem rdNum_cases (xs : Bytes) (n0 most : Nat) :
    ((numAt 0 0 (xs.drop n0)).2.2 = 0 ∧ (numAt 0 0 (xs.drop n0)).1 ≤ most ∧ rdNum xs n0 most = .ok (numAt 0 0 (xs.drop n0)).1 (n0 + (numAt 0 0 (xs.drop n0)).2.1)) ∨
    ((numAt 0 0 (xs.drop n0)).2.2 = 0 ∧ most < (numAt 0 0 (xs.drop n0)).1 ∧ rdNum xs n0 most = .bad 22 n0) ∨
    ((numAt 0 0 (xs.drop n0)).2.2 ≠ 0 ∧ rdNum xs n0 most = .bad (numAt 0 0 (xs.drop n0)).2.2 n0) := by
  unfold rdNum
  by_cases h : (numAt 0 0 (xs.drop n0)).2.2 = 0
  · by_cases h2 : most < (numAt 0 0 (xs.drop n0)).1
    · exact .inr (.inl ⟨h, h2, by simp only [h, if_true]; rw [if_pos h2]⟩)
    · exact .inl ⟨h, by omega, by simp only [h, if_true]; rw [if_neg h2]⟩
  · exact .inr (.inr ⟨h, by simp only [h, if_false]⟩)
theorem inNumber_any (most : Nat) (p g : Nat) (xs : Bytes) (w : World) (n0 : Nat) (hI : InB w p g xs n0 .nilIface) (hn : n0 ≤ xs.length) (hm : most < 18446744073709551616) :
    Calls Try.prog 65 #[ptr p, .int .u64 most] w (RdP w p g xs (rdNum xs n0 most) (fun x => .int .u64 (x : Nat)) (.int .u64 0)) := by
  obtain ⟨A, cap, h0, h1, h2, f0, f1, f2, hl, hr, hgp, hlc, hcm⟩ := hI.cells
  have HI := Lib.hid hI; clear hI
  have hcut : ∀ k A' c', (0 < xs.length - n0 → A' = A.map (·.add n0)) → xs.length - n0 ≤ c' → c' ≤ cap → Calls Try.prog 86 #[.slice A' (xs.length - n0) c'] (w.drewN k) fun e w' =>
      e = .returned (.tuple #[.int .u64 (numAt 0 0 (xs.drop n0)).1, .int .i64 (numAt 0 0 (xs.drop n0)).2.1, .int .i64 (numAt 0 0 (xs.drop n0)).2.2]) ∧ w.drewN k = w' := by
    intro k A' c' hA h1 h2
    have := (hr.drewN k).cut1 (lo := n0) (n := xs.length - n0) (c' := c') (A' := A') (by omega) h1 (by unfold maxLen; omega) hA
    rw [← List.map_drop, List.take_of_length_le (by simp)] at this
    exact number_any g (xs.drop n0) _ _ (by rw [List.length_drop]; exact this)
  have HC := Lib.hid hcut; clear hcut hr
  have hb := numAt_bounds (xs.drop n0) 0 0 (by omega) (by omega)
  have hcs := rdNum_cases xs n0 most
  rw [List.length_drop] at hb
  generalize numAt 0 0 (xs.drop n0) = t at *
  obtain ⟨x, n, why⟩ := t
  simp only at hb hcs HC
  have HB := Lib.hid hb; clear hb
  clear hm
  rcases hcs with ⟨h3, h4, h5⟩ | ⟨h3, h4, h5⟩ | ⟨h3, h5⟩
  · subst h3
    have H5 := Lib.hid h5; clear h5
    obtain ⟨hx, hn1, hn2⟩ : Hid (x < 18446744073709551616) ∧ 0 < n ∧ n ≤ xs.length - n0 := by
      rcases HB.out with ⟨_, h1, h2, h3, _⟩ | ⟨h1, _⟩
      · exact ⟨Lib.hid h1, h2, by omega⟩
      · simp at h1
    go_enter Try.func65, Try.ntmps65
    go_wp2
    go_quiet ((go_at_call 86; exact quiet_left (HC.out _ _ _ (by intro h; first | rfl | rw [if_neg (by omega)] | omega) (by omega) (by omega))))
    go_wp2
    all_goals
      go_ret2
      rw [H5.out]
      exact ⟨rfl, (HI.out.drewN _).set1, ((Mod.refl [p] w).drewN _).setCell _ (by simp) _⟩
  · subst h3
    have H5 := Lib.hid h5; clear h5
    go_enter Try.func65, Try.ntmps65
    go_wp2
    go_quiet ((go_at_call 86; exact quiet_left (HC.out _ _ _ (by intro h; first | rfl | rw [if_neg (by omega)] | omega) (by omega) (by omega))))
    go_wp2_with fail
    all_goals
      refine (fail_any _ _ p g xs _ _ _ (HI.out.drewN _)).mono ?_
      rintro e' w1 ⟨rfl, hb, hI1, hm⟩
      go_wp2
      go_ret2
      rw [H5.out]
      exact ⟨_, rfl, hb, hI1, (Mod.of_drewN _ w _).trans hm, Nat.le_refl _⟩
  · have H5 := Lib.hid h5; clear h5
    have hwhy : ((why : Int) == 0) = false := by simp [h3]
    go_enter Try.func65, Try.ntmps65
    go_wp2
    go_quiet ((go_at_call 86; exact quiet_left (HC.out _ _ _ (by intro h; first | rfl | rw [if_neg (by omega)] | omega) (by omega) (by omega))))
    go_wp2_with fail
    all_goals
      refine (fail_any _ _ p g xs _ _ _ (HI.out.drewN _)).mono ?_
      rintro e' w1 ⟨rfl, hb, hI1, hm⟩
      go_wp2
      go_ret2
      rw [H5.out]
      exact ⟨_, rfl, hb, hI1, (Mod.of_drewN _ w _).trans hm, Nat.le_refl _⟩
end Go.Proofs.Ytlpjeckhejbkkaa
end

section
set_option linter.unusedVariables false
set_option linter.unusedSimpArgs false
set_option maxRecDepth 20000
set_option maxHeartbeats 400000
namespace Go.Proofs.Ytlpjeckhejbkkaa
open Go.RowKit

theorem inByte_any (p g : Nat) (xs : Bytes) (w : World) (n0 : Nat) (hI : InB w p g xs n0 .nilIface) (hn : n0 ≤ xs.length) :
    Calls Try.prog 64 #[ptr p] w (RdP w p g xs (rdByte xs n0) bv (.int .u8 0)) := by
  by_cases hlt : n0 < xs.length
  · have H5 : Hid (rdByte xs n0 = .ok xs[n0] (n0 + 1)) := Lib.hid (by rw [rdByte, dif_pos hlt])
    have hnext := next_ok 1 p g xs w n0 hI (by omega)
    have HN := Lib.hid hnext; clear hnext
    go_enter Try.func64, Try.ntmps64
    go_wp2_with fail
    refine HN.out.mono ?_
    rintro e' w1 ⟨v, rfl, hr, hI1, hm⟩
    obtain ⟨off, cap, rfl, _, _, hg, hcell⟩ := hr.at_ (by omega)
    have hc := hcell 0 (bv xs[n0]) (by
      rw [List.getElem?_map, List.getElem?_take]
      simp [hlt])
    clear hcell
    rw [Nat.add_zero] at hc
    unfold bv at hc
    go_wp2
    go_ret2
    rw [H5.out]
    exact ⟨rfl, hI1, hm⟩
  · have H5 : Hid (rdByte xs n0 = .bad 20 n0) := Lib.hid (by rw [rdByte, dif_neg hlt])
    have hnext := next_short 1 p g xs w n0 hI (by omega) (by omega)
    have HN := Lib.hid hnext; clear hnext
    go_enter Try.func64, Try.ntmps64
    go_wp2_with fail
    refine HN.out.mono ?_
    rintro e' w1 ⟨q, rfl, hb, hI1, hm, hq⟩
    unfold badV
    go_wp2
    go_ret2
    rw [H5.out]
    exact ⟨q, rfl, hb, hI1, hm, hq⟩

/-- Raw: as bytes in memory of its own -/
def RawP (w : World) (p g : Nat) (xs : Bytes) (r : Rd Bytes) (e' : Ending) (w' : World) : Prop :=
  match r with
  | .ok a pos => ∃ v, e' = .returned (.tuple #[v, .nilIface]) ∧ InB w' p g xs pos .nilIface ∧ Mod [p] w w' ∧ OwnB w' v a ∧ (∀ b ∈ blks v, w.heap.size ≤ b)
  | .bad why at_ => ∃ q, e' = .returned (.tuple #[.slice none 0 0, badV q]) ∧ BadAt w' q why at_ ∧ InB w' p g xs at_ (badV q) ∧ Mod [p] w w' ∧ w.heap.size ≤ q
theorem xor_zero0 : bits .xor .i64 0 (wrap64 (-wrap64 (bits .and .u64 0 1))) = 0 := by decide +kernel
theorem rdNum_ok {xs : Bytes} {n0 most x pos : Nat} (h : rdNum xs n0 most = .ok x pos) (hn : n0 ≤ xs.length) : x ≤ most ∧ n0 < pos ∧ pos ≤ xs.length ∧ x < 18446744073709551616 := by
  have hb := numAt_bounds (xs.drop n0) 0 0 (by omega) (by omega)
  rw [List.length_drop] at hb
  rcases rdNum_cases xs n0 most with ⟨h3, h4, h5⟩ | ⟨h3, h4, h5⟩ | ⟨h3, h5⟩
  · rw [h] at h5
    injection h5 with h6 h7
    subst h6
    rcases hb with ⟨_, b1, b2, b3, _⟩ | ⟨b1, _⟩
    · exact ⟨h4, by omega, by omega, b1⟩
    · omega
  · rw [h] at h5; cases h5
  · rw [h] at h5; cases h5
theorem inSigned_any (p g : Nat) (xs : Bytes) (w : World) (n0 : Nat) (hI : InB w p g xs n0 .nilIface) (hn : n0 ≤ xs.length) :
    Calls Try.prog 98 #[ptr p] w (RdP w p g xs (rdSigned xs n0) (fun x => .int .i64 x) (.int .i64 0)) := by
  have hnum : Calls Try.prog 65 #[ptr p, .int .u64 18446744073709551615] w _ := inNumber_any 18446744073709551615 p g xs w n0 hI hn (by omega)
  have HN := Lib.hid hnum; clear hnum
  have hok := @rdNum_ok xs n0 18446744073709551615
  unfold rdSigned
  generalize rdNum xs n0 18446744073709551615 = r at *
  cases r with
  | ok x pos =>
    obtain ⟨_, _, hp, hx⟩ := hok rfl hn
    have HX := Lib.hid hx; clear hx hok
    go_enter Try.func98, Try.ntmps98
    go_wp2_with fail
    refine HN.out.mono ?_
    rintro e' w1 ⟨rfl, hI1, hm⟩
    go_wp2
    go_ret2
    refine ⟨?_, hI1, hm⟩
    show Ending.returned (.tuple #[.int .i64 (bits .xor .i64 ((x : Int) / 2) (wrap64 (-(wrap64 (bits .and .u64 (x : Int) 1))))), _]) = _
    rw [zag_bits x HX.out]
    rfl
  | bad why at_ =>
    clear hok
    go_enter Try.func98, Try.ntmps98
    go_wp2_with fail
    refine HN.out.mono ?_
    rintro e' w1 ⟨q, rfl, hb, hI1, hm, hq⟩
    unfold badV
    go_wp2
    go_ret2
    exact ⟨q, by show Ending.returned (.tuple #[.int .i64 (bits .xor .i64 0 (wrap64 (-wrap64 (bits .and .u64 0 1)))), _]) = _; rw [xor_zero0]; rfl, hb, hI1, hm, hq⟩
theorem read_any (p g : Nat) (xs : Bytes) (w : World) (n0 : Nat) (hI : InB w p g xs n0 .nilIface) (hn : n0 ≤ xs.length) (hz : xs.length ≤ 140737488355328) :
    Calls Try.prog 102 #[ptr p, .int .i64 65536] w (RdP w p g xs (rdText xs n0) (fun s => .string s) (.string ⟨#[]⟩)) := by
  have hnum : Calls Try.prog 65 #[ptr p, .int .u64 65536] w _ := inNumber_any 65536 p g xs w n0 hI hn (by omega)
  have HN := Lib.hid hnum; clear hnum
  have hok := @rdNum_ok xs n0 65536
  unfold rdText rdBytes
  generalize rdNum xs n0 65536 = r at *
  cases r with
  | ok x pos =>
    obtain ⟨hx, _, hp, _⟩ := hok rfl hn
    go_enter Try.func102, Try.ntmps102
    go_wp2_with fail
    refine HN.out.mono ?_
    rintro e' w1 ⟨rfl, hI1, hm⟩
    go_wp2_with fail
    refine (left_any p g xs w1 pos _ hI1 hp).mono ?_
    rintro e' w2 ⟨rfl, k, rfl⟩
    have hI2 := hI1.drewN k
    by_cases hlt : pos + x ≤ xs.length
    · have HR : Hid (rdRaw xs pos x = .ok ((xs.drop pos).take x) (pos + x)) := Lib.hid (by rw [rdRaw, if_neg (by omega)])
      have hnext := next_ok x p g xs (w1.drewN k) pos hI2 hlt
      have HX := Lib.hid hnext; clear hnext hI1 hI2
      go_wp2_with fail
      refine HX.out.mono ?_
      rintro e' w3 ⟨v, rfl, hr, hI3, hm3⟩
      have hr3 : BS w3 g v ((xs.drop pos).take x) := by
        have e : ((xs.drop pos).take x).length = x := by simp; omega
        unfold BS; rw [e]; exact hr
      have HR3 := Lib.hid hr3; clear hr3 hr
      have HI3 := Lib.hid hI3; clear hI3
      go_wp2_with (at_builtin; refine wpList_append_bytes rfl _ _ rfl (OwnB.nil w3) rfl HR3.out rfl ?_ ?hz; intro A1 n1 cap1 w4 hown hn1 hm4 hf4; obtain ⟨g4, hr4, _⟩ := hown.bs; have hcv := run_str hr4; have HM4 := Lib.hid hm4; clear hm4 hf4 hr4)
      case hz => simp; omega
      go_ret2
      rw [show (Rd.ok x pos).bind (fun n p => rdRaw xs p n) = rdRaw xs pos x from rfl, HR.out]
      have hm5 : Mod [] w3 w4 := HM4.out.mono (by simp [blks, Value.ownBlock])
      exact ⟨rfl, HI3.out.mod hm5 (by simp) (by simp), ((hm.drewN k).trans hm3).trans (hm5.mono (by simp))⟩
    · have HR : Hid (rdRaw xs pos x = .bad 20 pos) := Lib.hid (by rw [rdRaw, if_pos (by omega)])
      obtain ⟨A, cap, h0, h1, h2, f0, f1, f2, hl, hr, hgp, hlc, hcm⟩ := hI2.cells
      have HI2 := Lib.hid hI2; clear hI1 hI2
      have hs : xs.length - pos < x := by omega
      go_wp2_with fail
      refine (fail_any _ _ p g xs _ _ _ HI2.out).mono ?_
      rintro e' w3 ⟨rfl, hb3, hI3, hm3⟩
      unfold badV
      go_wp2
      go_ret2
      rw [show (Rd.ok x pos).bind (fun n p => rdRaw xs p n) = rdRaw xs pos x from rfl, HR.out]
      exact ⟨_, rfl, hb3, hI3, (hm.drewN k).trans hm3, by simpa using hm.size⟩
  | bad why at_ =>
    go_enter Try.func102, Try.ntmps102
    go_wp2_with fail
    refine HN.out.mono ?_
    rintro e' w1 ⟨q, rfl, hb, hI1, hm, hq⟩
    unfold badV
    go_wp2
    go_ret2
    exact ⟨q, rfl, hb, hI1, hm, hq⟩
end Go.Proofs.Ytlpjeckhejbkkaa
end

section
set_option linter.unusedVariables false
set_option linter.unusedSimpArgs false
set_option maxRecDepth 20000
set_option maxHeartbeats 400000
namespace Go.Proofs.Ytlpjeckhejbkkaa
open Go.RowKit

theorem inText_any (p g : Nat) (xs : Bytes) (w : World) (n0 : Nat) (hI : InB w p g xs n0 .nilIface) (hn : n0 ≤ xs.length) (hz : xs.length ≤ 140737488355328) :
    Calls Try.prog 88 #[ptr p, .int .i64 65536] w (RdP w p g xs (rdText xs n0) (fun s => .string s) (.string ⟨#[]⟩)) := by
  have hread := read_any p g xs w n0 hI hn hz
  have HN := Lib.hid hread; clear hread hI
  generalize rdText xs n0 = r at *
  cases r with
  | ok x pos =>
    go_enter Try.func88, Try.ntmps88
    go_wp2_with fail
    refine HN.out.mono ?_
    rintro e' w1 ⟨rfl, hI1, hm⟩
    go_wp2
    go_ret2
    exact ⟨rfl, hI1, hm⟩
  | bad why at_ =>
    go_enter Try.func88, Try.ntmps88
    go_wp2_with fail
    refine HN.out.mono ?_
    rintro e' w1 ⟨q, rfl, hb, hI1, hm, hq⟩
    unfold badV
    go_wp2
    go_ret2
    exact ⟨q, rfl, hb, hI1, hm, hq⟩
theorem zero32 : (.cells #[.int .u8 0, .int .u8 0, .int .u8 0, .int .u8 0, .int .u8 0, .int .u8 0, .int .u8 0, .int .u8 0, .int .u8 0, .int .u8 0, .int .u8 0, .int .u8 0, .int .u8 0, .int .u8 0, .int .u8 0, .int .u8 0, .int .u8 0, .int .u8 0, .int .u8 0, .int .u8 0, .int .u8 0, .int .u8 0, .int .u8 0, .int .u8 0, .int .u8 0, .int .u8 0, .int .u8 0, .int .u8 0, .int .u8 0, .int .u8 0, .int .u8 0, .int .u8 0] 46 : Obj) = .cells GHash.zero.cells.toArray 46 := rfl
theorem inHash_any (p g : Nat) (xs : Bytes) (w : World) (n0 : Nat) (hI : InB w p g xs n0 .nilIface) (hn : n0 ≤ xs.length) :
    Calls Try.prog 66 #[ptr p] w (RdP w p g xs (rdHash xs n0) GHash.val GHash.zero.val) := by
  by_cases hlt : n0 + 32 ≤ xs.length
  · have H5 : Hid (rdHash xs n0 = .ok ⟨(xs.drop n0).take 32, by simp; omega⟩ (n0 + 32)) := Lib.hid (by rw [rdHash, dif_pos hlt])
    have HI := Lib.hid hI; clear hI
    go_enter Try.func66, Try.ntmps66
    go_wp2_with fail
    rw [zero32]
    refine (next_ok 32 p g xs _ n0 (HI.out.alloc _) (by omega)).mono ?_
    rintro e' w1 ⟨v, rfl, hr, hI1, hm⟩
    obtain ⟨off, cap, rfl, _, _, hg, hcell⟩ := hr.at_ (by omega)
    have HC := Lib.hid hcell; clear hcell hr
    have hb : Blk w1 w.heap.size 46 GHash.zero.cells.toArray := (Blk.new w _ _).mod hm (by have := HI.out.lt; simp; omega)
    have HB := Lib.hid hb; clear hb
    have H32 : (((xs.drop n0).take 32).map bv).length = 32 := by simp; omega
    have hon : ∀ u ∈ ((xs.drop n0).take 32).map bv, u.oneCell' = true := bv_one _
    have HON := Lib.hid hon; clear hon
    have harr := run_arrayAt_hash (some ⟨g, off, none⟩) 32 cap (by omega)
    have HL := Lib.hid H32; clear H32
    go_wp2_with (first | (refine wpList_load_cells rtHash _ rfl rfl rfl HL.out HC.out ?_) | (refine wpList_store_blk rtHash _ _ rfl rfl rfl rfl HB.out HL.out (by simp [GHash.cells_length]) HON.out ?_; intro w2 hb2 hm2))
    have hm3 : Mod [p] w w2 := (((Mod.refl [p] w).alloc _).trans hm).then hm2 (by simp)
    have hg1 : g ≠ w.heap.size := by
      obtain ⟨v, _, hr, _⟩ := HI.out
      obtain ⟨_, _, _, _, _, hlt', _⟩ := hr.at_ (by omega)
      omega
    refine bodyPost_ret (results_row_tmp rtHash rfl rfl hb2 (by simpa using HL.out)) rfl ?_
    rw [H5.out]
    exact ⟨rfl, hI1.mod hm2 (by have := HI.out.lt; simp; omega) (by simpa using fun _ => hg1), hm3⟩
  · have H5 : Hid (rdHash xs n0 = .bad 20 n0) := Lib.hid (by rw [rdHash, dif_neg hlt])
    have HI := Lib.hid hI; clear hI
    go_enter Try.func66, Try.ntmps66
    go_wp2_with fail
    rw [zero32]
    refine (next_short 32 p g xs _ n0 (HI.out.alloc _) hn (by omega)).mono ?_
    rintro e' w1 ⟨q, rfl, hbad, hI1, hm, hq⟩
    have hb : Blk w1 w.heap.size 46 GHash.zero.cells.toArray := (Blk.new w _ _).mod hm (by have := HI.out.lt; simp; omega)
    have HB := Lib.hid hb; clear hb
    unfold badV
    go_wp2_with (refine wpList_store_blk rtHash _ _ rfl rfl rfl (cells := GHash.zero.cells) rfl HB.out (by simp [GHash.cells_length]) (by simp [GHash.cells_length]) GHash.zero.one ?_; intro w2 hb2 hm2)
    have hm3 : Mod [p] w w2 := (((Mod.refl [p] w).alloc _).trans hm).then hm2 (by simp)
    have hp := HI.out.lt
    refine bodyPost_ret (results_row_tmp rtHash rfl rfl hb2 (by simp [GHash.cells_length])) rfl ?_
    rw [H5.out]
    refine ⟨q, rfl, Blk.mod hbad hm2 ?_, hI1.mod hm2 (by simp; omega) (fun h => ?_), hm3, by simp at hq; omega⟩
    · have := Blk.ne_ HB.out hbad (by decide)
      simpa using fun h => this h.symm
    · obtain ⟨v, _, hr, _⟩ := HI.out
      obtain ⟨_, _, _, _, _, hlt', _⟩ := hr.at_ h
      simp; omega
end Go.Proofs.Ytlpjeckhejbkkaa
end

section
set_option linter.unusedVariables false
set_option linter.unusedSimpArgs false
set_option maxRecDepth 20000
set_option maxHeartbeats 400000
namespace Go.Proofs.Ytlpjeckhejbkkaa
open Go.RowKit

/-! ### literals of structs and of slices, cell by cell -/
theorem foldl_set (l : List Value) : ∀ (k off : Nat) (base : Array Value), off + k + l.length ≤ base.size →
    ((l.zipIdx k).foldl (fun (cs : Array Value) (x : Value × Nat) => cs.setIfInBounds (off + x.2) x.1) base).toList = base.toList.take (off + k) ++ l ++ base.toList.drop (off + k + l.length) := by
  induction l with
  | nil => intro k off base h; simp
  | cons c l ih =>
    intro k off base h
    simp only [List.length_cons] at h ⊢
    rw [List.zipIdx_cons, List.foldl_cons, ih (k + 1) off _ (by simp; omega)]
    simp only [Array.toList_setIfInBounds]
    have hk : off + k < base.toList.length := by simp; omega
    have e1 : (base.toList.set (off + k) c).take (off + (k + 1)) = base.toList.take (off + k) ++ [c] := by
      rw [show off + (k + 1) = off + k + 1 by omega, List.take_succ_eq_append_getElem (by simpa using hk)]
      rw [List.getElem_set_self, List.take_set_of_le (Nat.le_refl _)]
    have e2 : (base.toList.set (off + k) c).drop (off + (k + 1) + l.length) = base.toList.drop (off + k + (l.length + 1)) := by
      rw [List.drop_set_of_lt (by omega)]
      congr 1
      omega
    rw [e1, e2]
    simp
theorem fill_one (off sz : Nat) (v : Value) (base : Array Value) (hs : v.cells.size = sz) (h : off + sz ≤ base.size) (rest : List (Nat × Value)) (place : Nat → Option (Nat × Nat)) (i : Nat) (hp : place i = some (off, sz)) :
    Instr.fill place base ((i, v) :: rest) = Instr.fill place (base.toList.take off ++ v.cells.toList ++ base.toList.drop (off + sz)).toArray rest := by
  have e : v.cells.zipIdx.foldl (fun cs (c, j) => cs.setIfInBounds (off + j) c) base = (base.toList.take off ++ v.cells.toList ++ base.toList.drop (off + sz)).toArray := by
    apply Array.toList_inj.1
    have := foldl_set v.cells.toList 0 off base (by simp; omega)
    simp only [Nat.add_zero, Array.length_toList, hs] at this
    rw [← this, ← Array.foldl_toList, Array.toList_zipIdx]
  rw [Instr.fill, hp]
  simp only
  rw [if_neg (by simp; omega), e]
/-- a slice literal of one value of sz cells -/
theorem run_buildSlice1 {P : Program} {t e : TypeId} {sz bytes : Nat} (E : ElemT P t e sz bytes) (hsz : sz ≤ 16777216) {v : Value} (hv : v.cells.size = sz) (w : World) :
    (Instr.buildSlice t 1 #[(0, v)]).run P w = .ok (.slice (some ⟨w.heap.size, 0, none⟩) 1 1) (w.alloc (.cells v.cells e)) := by
  obtain ⟨i, z, ht, hi, hz, hs, hb, hzs, h0⟩ := E
  have hsize : (sizeOf e).run P w = .ok sz w := by simp [sizeOf, typeInfo, hi, hs]
  have hzero : (zeroValue e).run P w = .ok z w := by simp [zeroValue, typeInfo, hi, hz]
  have hf : Instr.fill (fun i => some (i * sz, sz)) ((Array.range (1 * sz)).map (z.cells[· % z.cells.size]!)) [(0, v)] = some v.cells := by
    rw [fill_one 0 sz v _ hv (by simp) [] _ 0 (by simp)]
    simp [Instr.fill]
    rw [List.drop_of_length_le (by simp)]
    simp
  have h1 : ¬ (1 * sz > 2 ^ 24) := by omega
  have h2 : ¬ (1 * sz = 0) := by omega
  simp only [Instr.buildSlice, Sem.run_bind, run_underlying ht, Result.andThen_ok, hsize, h1, h2, if_false, hzero, Sem.run_pure]
  simp only [hf]
  simp [newRow, Sem.run_bind]
theorem RS.ofNew {w : World} {e : TypeId} {sz : Nat} {cs : List Value} (h : cs.length = sz) : RS (w.alloc (.cells cs.toArray e)) sz w.heap.size (.slice (some ⟨w.heap.size, 0, none⟩) 1 1) 1 cs := by
  refine ⟨by omega, _, 1, rfl, by omega, by decide, fun _ => ⟨0, rfl, by simp, fun i u hu => ?_⟩⟩
  rw [Nat.zero_add, (Blk.new w e cs.toArray).cell i]
  simpa using hu
theorem wpList_buildSlice1 {P : Program} {t e : TypeId} {sz bytes : Nat} (E : ElemT P t e sz bytes) (hsz : sz ≤ 16777216) {ops : Array Oper} {rest : List Oper} {op : Oper} {a : Act} {w : World} {Q : Exit → Act → World → Prop} (x : Operand) (ho : op.op = .buildSlice t 1 #[(0, x)]) (hgd : Region.wanted op (yielded ops a.tmps) = true) {v : Value} {cs : List Value} (hv : v.cells = cs.toArray) (hc : cs.length = sz) (hx : a.eval x = v)
    (h : ∀ g w1, RS w1 sz g (.slice (some ⟨g, 0, none⟩) 1 1) 1 cs → Blk w1 g e cs.toArray → Mod [] w w1 → w.heap.size ≤ g → g < w1.heap.size → wpList P ops Q rest (a.put op.dst (.slice (some ⟨g, 0, none⟩) 1 1)) w1) : wpList P ops Q (op :: rest) a w := by
  refine BigFrame.wpList_want hgd fun K hK => ?_
  have hr := run_buildSlice1 E hsz (v := v) (by rw [hv]; simpa using hc) w
  rw [hv] at hr
  unfold Oper.wp execOp
  simp only [ho, Sem.run_bind, List.map_toArray, List.map_cons, List.map_nil, hx, hr, Result.andThen_ok, Sem.run_pure]
  exact hK _ _ (h _ _ (RS.ofNew hc) (Blk.new w e _) ((Mod.refl [] w).alloc _) (Nat.le_refl _) (by simp))
end Go.Proofs.Ytlpjeckhejbkkaa
end

section
set_option linter.unusedVariables false
set_option linter.unusedSimpArgs false
namespace Go.Proofs.Ytlpjeckhejbkkaa
open Go.RowKit

/-! ### a region that draws: an operation may be taken first, if it yields its value in every world that may come of this one -/
structure PreE (E : World → World → Prop) : Prop where
  refl : ∀ w, E w w
  trans : ∀ a b c, E a b → E b c → E a c
theorem preMod (S : List Nat) : PreE (Mod S) := ⟨Mod.refl S, fun _ _ _ h k => h.trans k⟩
section
variable {P : Program} {ops : Array Oper} {Q : Exit → Act → World → Prop} {md : Region.Mode} {E : World → World → Prop}

def wpAnyE (P : Program) (md : Region.Mode) (ops : Array Oper) (Q : Exit → Act → World → Prop) (E : World → World → Prop) : Nat → Array Bool → Act → World → Prop
  | 0, listed, a, w => Region.ready md ops listed = [] ∧ Q .normal a w
  | fuel + 1, listed, a, w =>
    (Region.ready md ops listed = [] → Q .normal a w) ∧
    ∀ i ∈ Region.ready md ops listed, wpOp P ops Q i (fun a' w' => E w w' ∧ wpAnyE P md ops Q E fuel (listed.setIfInBounds i true) a' w') a w
theorem wpAny_ofE : ∀ (fuel : Nat) (listed : Array Bool) (a : Act) (w : World), wpAnyE P md ops Q E fuel listed a w → wpAny P md ops Q fuel listed a w
  | 0, _, _, _, h => h
  | fuel + 1, _, _, _, h => ⟨h.1, fun i hi => wpOp_mono (fun a' w' h' => wpAny_ofE fuel _ a' w' h'.2) (h.2 i hi)⟩
theorem yields_next {oi : Oper} {v : Value} {a : Act} {w w' : World} (hE : PreE E) (h : YieldsIf P ops (E w) oi v a) (hw : E w w') : YieldsIf P ops (E w') oi v a :=
  h.imp (fun ⟨h1, h2⟩ => ⟨h1, fun W hW => h2 W (hE.trans _ _ _ hw hW)⟩) id
theorem wpAnyE_first (hE : PreE E) {i : Nat} {oi : Oper} {v : Value} (hi : ops[i]? = some oi) (hsel : ∀ (j : Nat) (o : Oper) cs b, ops[j]? = some o → o.op ≠ .select cs b)
    (hQ : ∀ c a w, Q (.panic c) (a.put oi.dst v) w → Q (.panic c) a w) :
    ∀ (fuel : Nat) (listed : Array Bool) (a : Act) (w : World),
      (∀ j oj, ops[j]? = some oj → j ≠ i → listed.getD j true = false → (∀ e ∈ oj.after, Region.binds md e = true → e.on ≠ i) → oi.apart ops oj = true) →
      i ∈ Region.ready md ops listed → YieldsIf P ops (E w) oi v a →
      wpAnyE P md ops Q E fuel (listed.setIfInBounds i true) (a.put oi.dst v) w → wpAnyE P md ops Q E (fuel + 1) listed a w := by
  intro fuel
  induction fuel with
  | zero =>
    intro listed a w _ hr hy H
    refine ⟨fun h => (by rw [h] at hr; cases hr), fun j hj => ?_⟩
    by_cases hji : j = i
    · subst hji; exact hy.wpOp hi (hE.refl w) ⟨hE.refl w, H⟩
    · have := ready_mono hj hji
      rw [H.1] at this
      cases this
  | succ fuel ih =>
    intro listed a w hfree hr hy H
    refine ⟨fun h => (by rw [h] at hr; cases hr), fun j hj => ?_⟩
    by_cases hji : j = i
    · subst hji; exact hy.wpOp hi (hE.refl w) ⟨hE.refl w, H⟩
    · have h1 := H.2 j (ready_mono hj hji)
      obtain ⟨hjun, oj, hoj, hall⟩ := mem_ready.1 hj
      have hnot : ∀ e ∈ oj.after, Region.binds md e = true → e.on ≠ i := fun e he hb heq => by
        have h1 := hall e he hb
        have h0 := (mem_ready.1 hr).1
        rw [heq] at h1
        rcases Nat.lt_or_ge i listed.size with h' | h'
        · simp [h'] at h0 h1; rw [h0] at h1; cases h1
        · simp [Array.getElem?_eq_none h'] at h1
      have h2 := wpOp_putIf hoj (hfree j oj hoj hji hjun hnot) (fun cs b => hsel i oi cs b hi) (fun cs b => hsel j oj cs b hoj) hQ hy h1
      have hfree' : ∀ k ok, ops[k]? = some ok → k ≠ i → (listed.setIfInBounds j true).getD k true = false →
          (∀ e ∈ ok.after, Region.binds md e = true → e.on ≠ i) → oi.apart ops ok = true := fun k ok hk hki hun hno => by
        refine hfree k ok hk hki ?_ hno
        by_cases hjk : j = k
        · subst hjk; exact hjun
        · rw [getD_set_ne true hjk] at hun; exact hun
      refine wpOp_mono (fun a' w' h3 => ⟨h3.2.1, ih (listed.setIfInBounds j true) a' w' hfree' (ready_mono hr (Ne.symm hji)) (yields_next hE h3.1 h3.2.1) ?_⟩) h2
      rw [Array.setIfInBounds_comm _ _ hji]
      exact h3.2.2
theorem wpAnyE_take (hE : PreE E) {i : Nat} {oi : Oper} {v : Value} {fuel : Nat} {listed : Array Bool} {a : Act} {w : World} (hi : ops[i]? = some oi)
    (hs : Region.noSelect ops = true) (hf : Region.free md ops listed i = true) (hr : (Region.ready md ops listed).contains i = true)
    (hQ : ∀ c a w, Q (.panic c) (a.put oi.dst v) w → Q (.panic c) a w) (hy : YieldsIf P ops (E w) oi v a)
    (h : wpAnyE P md ops Q E fuel (listed.setIfInBounds i true) (a.put oi.dst v) w) : wpAnyE P md ops Q E (fuel + 1) listed a w :=
  wpAnyE_first hE hi (Region.noSelect_spec hs) hQ fuel listed a w (Region.free_spec hi hf) (by simpa using hr) hy h
/-- the operation number i of a written list -/
def nthOp : List Oper → Nat → Option Oper
  | [], _ => none
  | o :: _, 0 => some o
  | _ :: l, i + 1 => nthOp l i
theorem nthOp_eq (l : List Oper) : ∀ i, nthOp l i = l.toArray[i]? := by
  induction l with
  | nil => intro i; simp [nthOp]
  | cons o l ih =>
    intro i
    cases i with
    | zero => simp [nthOp]
    | succ i => simpa [nthOp] using ih i
theorem wpAnyE_takeL (hE : PreE E) {l : List Oper} (i : Nat) {oi : Oper} {v : Value} {fuel : Nat} {listed : Array Bool} {a : Act} {w : World} (hi : nthOp l i = some oi)
    (hs : Region.noSelect l.toArray = true) (hf : Region.free md l.toArray listed i = true) (hr : (Region.ready md l.toArray listed).contains i = true)
    (hQ : ∀ c a w, Q (.panic c) (a.put oi.dst v) w → Q (.panic c) a w) (hy : YieldsIf P l.toArray (E w) oi v a)
    (h : wpAnyE P md l.toArray Q E fuel (listed.setIfInBounds i true) (a.put oi.dst v) w) : wpAnyE P md l.toArray Q E (fuel + 1) listed a w :=
  wpAnyE_take hE ((nthOp_eq l i).symm.trans hi) hs hf hr hQ hy h
theorem wpAnyE_all {rs : List Nat} {fuel : Nat} {listed : Array Bool} {a : Act} {w : World} (hr : Region.ready md ops listed = rs) (hne : rs ≠ [])
    (h : ∀ i ∈ rs, wpOp P ops Q i (fun a' w' => E w w' ∧ wpAnyE P md ops Q E fuel (listed.setIfInBounds i true) a' w') a w) : wpAnyE P md ops Q E (fuel + 1) listed a w :=
  ⟨fun h0 => absurd (hr ▸ h0) hne, hr ▸ h⟩
theorem wpAnyE_done {listed : Array Bool} {a : Act} {w : World} (hr : Region.ready md ops listed = []) (h : Q .normal a w) :
    ∀ fuel, wpAnyE P md ops Q E fuel listed a w
  | 0 => ⟨hr, h⟩
  | _ + 1 => ⟨fun _ => h, by rw [hr]; simp⟩
theorem wp_regionE (E : World → World → Prop) {id : Nat} {a : Act} {w : World} (hm : P.follows .mixedOrders = true)
    (h : wpAnyE P .any ops Q E ops.size (Array.replicate ops.size false) a w.drew) : (Code.region id ops true).wp P Q a w :=
  wp_region_any hm (wpAny_ofE _ _ _ _ h)
def AllReadyE (P : Program) (md : Region.Mode) (ops : Array Oper) (Q : Exit → Act → World → Prop) (E : World → World → Prop) (fuel : Nat) (listed : Array Bool) (a : Act) (w : World) (rs : List Nat) : Prop :=
  ∀ i ∈ rs, wpOp P ops Q i (fun a' w' => E w w' ∧ wpAnyE P md ops Q E fuel (listed.setIfInBounds i true) a' w') a w
theorem AllReadyE.nil {fuel : Nat} {listed : Array Bool} {a : Act} {w : World} : AllReadyE P md ops Q E fuel listed a w [] := fun _ h => by cases h
def ShutE (p : Prop) : Prop := p
theorem ShutE.out {p : Prop} (h : ShutE p) : p := h
theorem AllReadyE.cons {fuel : Nat} {listed : Array Bool} {a : Act} {w : World} {i : Nat} {o : Oper} {rs : List Nat} (ho : ops[i]? = some o)
    (h : ∀ K' : Act → World → Prop, ShutE (∀ a' w', E w w' → wpAnyE P md ops Q E fuel (listed.setIfInBounds i true) a' w' → K' a' w') → if Region.wanted o (yielded ops a.tmps) = true then Oper.wp P o a w K' Q else K' (a.put o.dst undef) w)
    (hs : AllReadyE P md ops Q E fuel listed a w rs) : AllReadyE P md ops Q E fuel listed a w (i :: rs) := fun j hj => by
  rcases List.mem_cons.1 hj with rfl | hj
  · exact wpOp_step ho (fun K' hK => h K' (fun a w hS hW => hK a w ⟨hS, hW⟩))
  · exact hs j hj
theorem AllReadyE.consL {l : List Oper} {fuel : Nat} {listed : Array Bool} {a : Act} {w : World} {i : Nat} {o : Oper} {rs : List Nat} (ho : nthOp l i = some o)
    (h : ∀ K' : Act → World → Prop, ShutE (∀ a' w', E w w' → wpAnyE P md l.toArray Q E fuel (listed.setIfInBounds i true) a' w' → K' a' w') → if Region.wanted o (yielded l.toArray a.tmps) = true then Oper.wp P o a w K' Q else K' (a.put o.dst undef) w)
    (hs : AllReadyE P md l.toArray Q E fuel listed a w rs) : AllReadyE P md l.toArray Q E fuel listed a w (i :: rs) := AllReadyE.cons ((nthOp_eq l i).symm.trans ho) h hs
theorem wpAnyE_ready {rs : List Nat} {fuel : Nat} {listed : Array Bool} {a : Act} {w : World} (hr : Region.ready md ops listed = rs) (hne : rs ≠ [])
    (h : AllReadyE P md ops Q E fuel listed a w rs) : wpAnyE P md ops Q E (fuel + 1) listed a w := wpAnyE_all hr hne h
end
end Go.Proofs.Ytlpjeckhejbkkaa
end

section
set_option linter.unusedVariables false
set_option linter.unusedSimpArgs false
set_option maxRecDepth 20000
set_option maxHeartbeats 400000
namespace Go.Proofs.Ytlpjeckhejbkkaa
open Go.RowKit

/-! ### single operations of a region: loads and stores of rows -/
theorem run_load_cells {P : Program} {ty : TypeId} {sz : Nat} (E : RowT P ty sz) {op : Oper} {a : Act} {w : World} (x : Operand) (ho : op.op = .load ty x) {b o : Nat} (hx : a.eval x = .pointer (some ⟨b, o, none⟩)) {cs : List Value} (hl : cs.length = sz) (hc : CellsAt w b o cs) :
    (execOp a.eval op).run P w = .ok (.value (.agg cs.toArray)) w := by
  obtain ⟨d, h1, h2, h3⟩ := E
  unfold execOp
  simp only [ho, hx, Instr.loadAt, Instr.sureAddr, Sem.run_bind, Sem.run_pure, Result.andThen_ok, run_loadVar_mid w b o ty cs d hc h1 h2 (by rw [h3, hl])]
theorem opwp_store_blk {P : Program} {ty : TypeId} {sz : Nat} (E : RowT P ty sz) {op : Oper} {a : Act} {w : World} {K : Act → World → Prop} {Q : Exit → Act → World → Prop} (x y : Operand) (ho : op.op = .store ty x y)
    {g : Nat} (hx : a.eval x = .pointer (some ⟨g, 0, none⟩)) {cells : List Value} (hy : a.eval y = .agg cells.toArray) {t : TypeId} {old : Array Value} (hb : Blk w g t old) (hl : cells.length = sz) (hold : old.size = sz) (h1 : ∀ u ∈ cells, u.oneCell' = true)
    (h : ∀ w', Blk w' g t cells.toArray → Mod [g] w w' → K (a.put op.dst undef) w') : op.wp P a w K Q := by
  obtain ⟨d, _, _, h3⟩ := E
  exact wp_store_row ty x y ho g cells.toArray hx hy t old hb (by rw [h3]; simp [hl]) (by simp [hold, hl]) (all_oneCell_toArray h1) (h _ (setRow_heap w g old _ t _ hb) ((Mod.refl [g] w).setRow g _ (by simp)))
/-- a single operation of a region, by a law on lists of operations -/
theorem opwp_of_list {P : Program} {op : Oper} {a : Act} {w : World} {K : Act → World → Prop} {Q : Exit → Act → World → Prop} (hg : op.guard = none)
    (h : ∀ Q' : Exit → Act → World → Prop, (∀ a w, K a w → Q' .normal a w) → wpList P #[] Q' [op] a w) : op.wp P a w K Q := by
  have h' := h (fun e a w => e = .normal ∧ K a w) (fun a w k => ⟨rfl, k⟩)
  unfold wpList at h'
  rw [if_pos (by unfold Region.wanted; rw [hg])] at h'
  rcases h' with h' | ⟨_, a', w', hl, _⟩
  · unfold Oper.wp at *
    generalize (execOp a.eval op).run P w = r at *
    cases r with
    | ok n w' =>
      cases n <;> simp only [Oper.upon] at h' ⊢ <;>
        first
          | exact h'.2
          | exact Calls.mono h' (fun e w'' he => by
              cases e with
              | returned v => exact he.2
              | panicked c => exact absurd he.1 (by simp)
              | outgrown => obtain ⟨_, _, h1, _⟩ := he; exact absurd h1 (by simp))
          | exact Rows.mono h' (fun _ _ he => he.2)
          | exact h'
    | halt x w' =>
      cases x <;> simp only [Oper.upon] at h' ⊢ <;> first | exact absurd h'.1 (by simp) | exact h'
  · cases hl
/-- only blocks from that number on are changed -/
def From (n : Nat) (w w' : World) : Prop := ∃ S, (∀ b ∈ S, n ≤ b) ∧ Mod S w w'
theorem From.refl (n : Nat) (w : World) : From n w w := ⟨[], by simp, Mod.refl _ _⟩
theorem From.trans {n : Nat} {a b c : World} (h : From n a b) (k : From n b c) : From n a c := by
  obtain ⟨S, h1, h2⟩ := h
  obtain ⟨T, k1, k2⟩ := k
  exact ⟨S ++ T, fun b hb => (List.mem_append.1 hb).elim (h1 b) (k1 b), (h2.mono (by simp_all)).trans (k2.mono (by simp_all))⟩
theorem preFrom (n : Nat) : PreE (From n) := ⟨From.refl n, fun _ _ _ h k => h.trans k⟩
theorem From.of {n : Nat} {S : List Nat} {w w' : World} (h : Mod S w w') (hS : ∀ b ∈ S, n ≤ b) : From n w w' := ⟨S, hS, h⟩
theorem From.new {w w' : World} (h : From w.heap.size w w') : Mod [] w w' := by
  obtain ⟨S, h1, h2⟩ := h
  exact (Mod.refl [] w).then h2 (fun b hb => .inr (h1 b hb))
theorem From.size {n : Nat} {w w' : World} (h : From n w w') : w.heap.size ≤ w'.heap.size := h.choose_spec.2.size
end Go.Proofs.Ytlpjeckhejbkkaa
end
