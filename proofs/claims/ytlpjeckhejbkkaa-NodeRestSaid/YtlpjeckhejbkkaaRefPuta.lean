import Derived.Test.YtlpjeckhejbkkaaRefPut
set_option linter.unusedVariables false
set_option linter.unusedSimpArgs false
set_option maxRecDepth 20000
set_option maxHeartbeats 1600000
namespace Go.Proofs.Ytlpjeckhejbkkaa
open Go.RowKit

theorem kinds5 (kn : Nat) (h : kn < 10) : (hasText (kn : Int) = false ∧ ((kn : Int) == 6) = false ∧ hasAt (kn : Int) = false) ∨ (hasText (kn : Int) = true ∧ ((kn : Int) == 6) = false ∧ hasAt (kn : Int) = false) ∨ (hasText (kn : Int) = false ∧ ((kn : Int) == 6) = true ∧ hasAt (kn : Int) = false) ∨ (hasText (kn : Int) = true ∧ ((kn : Int) == 6) = false ∧ hasAt (kn : Int) = true) ∨ (hasText (kn : Int) = false ∧ ((kn : Int) == 6) = false ∧ hasAt (kn : Int) = true) := by
  have : kn = 0 ∨ kn = 1 ∨ kn = 2 ∨ kn = 3 ∨ kn = 4 ∨ kn = 5 ∨ kn = 6 ∨ kn = 7 ∨ kn = 8 ∨ kn = 9 := by omega
  rcases this with rfl | rfl | rfl | rfl | rfl | rfl | rfl | rfl | rfl | rfl <;> decide
theorem refNumber0_any (v : Value) (xs : Bytes) (w : World) (hO : OwnB w v xs) (hz : xs.length ≤ 190000000000000) :
    Calls Try.prog 54 #[v, .int .u64 0] w (AppP w v (xs ++ putNum 0)) := refNumber_any v xs 0 w hO (by omega) hz
theorem own_eq {w : World} {v : Value} {xs ys : Bytes} (h : OwnB w v xs) (e : ys = xs) : OwnB w v ys := by rw [e]; exact h
def putAt0 (n : Nat) (h : GHash) : Bytes := putNum n ++ (if n = 0 then [] else h.l)
theorem put_eq (o : GOp) (kn : Nat) (hk : o.kind = (kn : Int)) (h9 : kn < 10) (ao : Int) (ha : o.at_.op = ao) : putOp o = UInt8.ofNat kn :: (putText o.key ++ ((if hasText (kn : Int) then putText o.text else []) ++ ((if (kn : Int) = 6 then putNum (zig o.n) else []) ++ (if hasAt (kn : Int) then putNum ao.toNat ++ (if ao = 0 then [] else o.at_.node.l) else [])))) := by
  unfold putOp putAt
  rw [hk, ha]
  have e : ((kn : Int).toNat % 256) = kn := by simp; omega
  rw [e]
theorem refPut_any (v0 : Value) (xs : Bytes) (l : List GOp) (g : Nat) (v : Value) (w : World) (hO : OwnB w v0 xs) (hs : OS w g v l) (hg : 0 < l.length → g ∉ blks v0) (hn : ∀ o ∈ l, o.nums) (h0 : (checkOps l).1 = 0) (hz : xs.length ≤ 150000000000000) :
    Calls Try.prog 56 #[v0, v] w (AppP w v0 (xs ++ putOps l)) := by
  obtain ⟨hl, hall⟩ := check_all h0
  have HALL := Lib.hid hall; clear hall
  have HN := Lib.hid hn; clear hn
  obtain ⟨A, cap, rfl, _, _⟩ := hs.val
  have HTL := Lib.hid (takeOps_length l hl HALL.out HN.out)
  have HLB : Hid ((putNum l.length).length ≤ 10) := Lib.hid (putNum_length10 _ (by omega))
  have hnum := refNumber_any v0 xs l.length w hO (by omega) (by omega)
  have HNU := Lib.hid hnum; clear hnum
  have HS := Lib.hid hs; clear hs
  go_enter Try.func56, Try.ntmps56
  go_wp2_with fail
  refine HNU.out.mono ?_
  rintro e' w1 ⟨A1, n1, cap1, rfl, ho1, hm1, hf1⟩
  have HS1 : Hid (OS w1 g _ l) := Lib.hid (HS.out.mod hm1 hg)
  have HG1 : Hid (0 < l.length → g ∉ blks (.slice A1 n1 cap1)) := Lib.hid (HS.out.not hf1 hg)
  have HO1 := Lib.hid ho1
  have HM1 := Lib.hid hm1
  have HF1 := Lib.hid hf1
  clear ho1 hm1 hf1
  go_wp2_with fail
  go_loopw [0, 5] (fun s0 s5 wr => ∃ (j : Nat) (A' : Option Addr) (n' cap' : Nat), s5 = .int .i64 (j : Int) ∧ j ≤ l.length ∧ s0 = .slice A' n' cap' ∧ Hid (OS wr g (.slice A l.length cap) l) ∧ Hid (OwnB wr (.slice A' n' cap') (xs ++ putNum l.length ++ (l.take j).flatMap putOp)) ∧ Hid (Mod (blks v0) w wr) ∧ Hid (Fresh w (blks v0) (blks (.slice A' n' cap'))) ∧ Hid (0 < l.length → g ∉ blks (.slice A' n' cap'))) (fun _ s _ => l.length - (intOf s).toNat)
  case atStart => exact ⟨0, A1, n1, cap1, rfl, by omega, rfl, HS1, Lib.hid (by simpa using HO1.out), HM1, HF1, HG1⟩
  case round =>
    obtain ⟨j, A', n', cap', rfl, hj, rfl, HS, HO, HM, HF, HG'⟩ := hrel
    clear HS1 HO1 HM1 HF1 HG1
    by_cases hjl : j < l.length
    · obtain ⟨off, cap2, hv', _, _, hgl, hit⟩ := HS.out.item (by omega)
      injection hv' with hA _ hcap
      subst hA
      subst hcap
      have HJ := Lib.hid (hit j hjl)
      have HLEN : Hid (((l.take j).flatMap putOp).length ≤ 307200000) := Lib.hid (by have := HTL.out j hj; omega)
      have HW := Lib.hid (HALL.out j hjl)
      have HTK : Hid (l.take (j + 1) = l.take j ++ [l[j]]) := Lib.hid (List.take_succ_eq_append_getElem hjl)
      have HON := Lib.hid (HN.out l[j] (List.getElem_mem _))
      have HQF : Hid (wr.heap.size ∉ blks (.slice A' n' cap')) := Lib.hid (fun h => by have := HO.out.lt _ h; omega)
      clear hit
      obtain ⟨o, ho⟩ : ∃ o, l[j] = o := ⟨_, rfl⟩
      rw [ho] at HJ HW HTK HON
      clear ho
      obtain ⟨hk, hks, hts, _, hmay⟩ := wrong_zero HW.out
      obtain ⟨kn, hkn, hkn9⟩ : ∃ kn : Nat, o.kind = (kn : Int) ∧ kn < 10 := ⟨o.kind.toNat, by unfold known at hk; have := of_decide_eq_true hk; omega, by unfold known at hk; have := of_decide_eq_true hk; omega⟩
      obtain ⟨B, hB⟩ : ∃ B, xs ++ putNum l.length ++ (l.take j).flatMap putOp = B := ⟨_, rfl⟩
      have HBE := Lib.hid hB
      rw [hB] at HO
      have HBL : Hid (B.length ≤ 160000400000000) := Lib.hid (by rw [← hB, List.length_append, List.length_append]; have := HLB.out; have := HLEN.out; omega)
      clear hB
      have HKB : Hid ((kn : Int) = ((UInt8.ofNat kn).toNat : Int)) := Lib.hid (by rw [show (UInt8.ofNat kn).toNat = kn from (by simp; omega)])
      have HKL : Hid ((putText o.key).length ≤ 65546) := Lib.hid (putText_length o.key hks)
      have HTL2 : Hid ((putText o.text).length ≤ 65546) := Lib.hid (putText_length o.text hts)
      have HL1 : Hid ((putNum o.key.data.toList.length).length ≤ 10) := Lib.hid (putNum_length10 _ (by have : o.key.data.toList.length = o.key.size := rfl; omega))
      have HL2 : Hid ((putNum o.text.data.toList.length).length ≤ 10) := Lib.hid (putNum_length10 _ (by have : o.text.data.toList.length = o.text.size := rfl; omega))
      have HNL : Hid ((putNum (zig o.n)).length ≤ 10) := Lib.hid (putNum_length10 _ (zig_lt _ HON.out.1 HON.out.2))
      have HKE : Hid (o.key.data.toList.length = o.key.size) := Lib.hid rfl
      have HTE : Hid (o.text.data.toList.length = o.text.size) := Lib.hid rfl
      have HON1 := HON.out.1
      have HON2 := HON.out.2
      have HFITS : Hid (hasAt (kn : Int) = true → 0 ≤ o.at_.op ∧ o.at_.op ≤ 1024) := Lib.hid (fun h => atMay_fits (hmay (by rw [hkn]; exact h)) (by simp; omega))
      have HKN := Lib.hid hkn
      clear hmay hkn HW HALL HN HTL HON hz
      obtain ⟨ao, hao⟩ : ∃ ao, o.at_.op = ao := ⟨_, rfl⟩
      have HAO := Lib.hid hao
      have HZ7 : Hid ((hasText (kn : Int) = false ∧ ((kn : Int) == 6) = false ∧ hasAt (kn : Int) = false) ∨ (hasText (kn : Int) = true ∧ ((kn : Int) == 6) = false ∧ hasAt (kn : Int) = false) ∨ (hasText (kn : Int) = false ∧ ((kn : Int) == 6) = true ∧ hasAt (kn : Int) = false) ∨ (hasText (kn : Int) = true ∧ ((kn : Int) == 6) = false ∧ hasAt (kn : Int) = true ∧ ao = 0) ∨ (hasText (kn : Int) = true ∧ ((kn : Int) == 6) = false ∧ hasAt (kn : Int) = true ∧ ∃ m : Nat, ao = (m : Int) ∧ 0 < m ∧ m ≤ 1024) ∨ (hasText (kn : Int) = false ∧ ((kn : Int) == 6) = false ∧ hasAt (kn : Int) = true ∧ ao = 0) ∨ (hasText (kn : Int) = false ∧ ((kn : Int) == 6) = false ∧ hasAt (kn : Int) = true ∧ ∃ m : Nat, ao = (m : Int) ∧ 0 < m ∧ m ≤ 1024)) := Lib.hid (by
        rcases kinds5 kn hkn9 with h | h | h | ⟨h1, h2, h3⟩ | ⟨h1, h2, h3⟩
        · exact .inl h
        · exact .inr (.inl h)
        · exact .inr (.inr (.inl h))
        · have := HFITS.out h3
          by_cases h0 : ao = 0
          · exact .inr (.inr (.inr (.inl ⟨h1, h2, h3, h0⟩)))
          · exact .inr (.inr (.inr (.inr (.inl ⟨h1, h2, h3, ao.toNat, by omega, by omega, by omega⟩))))
        · have := HFITS.out h3
          by_cases h0 : ao = 0
          · exact .inr (.inr (.inr (.inr (.inr (.inl ⟨h1, h2, h3, h0⟩)))))
          · exact .inr (.inr (.inr (.inr (.inr (.inr ⟨h1, h2, h3, ao.toNat, by omega, by omega, by omega⟩))))))
      clear hao
      rcases HZ7.out with ⟨hT, h6, hA⟩ | ⟨hT, h6, hA⟩ | ⟨hT, h6, hA⟩ | ⟨hT, h6, hA, rfl⟩ | ⟨hT, h6, hA, m, rfl, hm0, hm1⟩ | ⟨hT, h6, hA, rfl⟩ | ⟨hT, h6, hA, m, rfl, hm0, hm1⟩
      all_goals
        clear HZ7
        go_wp2_with (first | ((with_reducible refine wpList_load_op _ rfl ?hgd HJ.out ?hx ?_); (case hgd => exact rfl); (case hx => exact rfl)) | ((with_reducible refine wpList_store_op (o := o) _ _ rfl ?hgd ?hx ?hy (Blk.new _ _ _) ?hold ?_); (case hgd => exact rfl); (case hx => exact rfl); (case hy => exact rfl); (case hold => exact rfl); intro w3 hv3 hm3; dsimp only [Act.put]; have hm4 := ((Mod.refl [] wr).alloc _).then hm3 (by simp); obtain ⟨c0, c1, c2, c3, c36, _, _, HH⟩ := hv3.open_; rw [HKN.out] at c0; rw [HAO.out] at c36; have HP : Hid (PT w v0 wr.heap.size g (.slice (some ⟨g, off, none⟩) l.length cap) l o B (.slice A' n' cap') w3) := Lib.hid ⟨HO.out.mod hm4 (by simp), HS.out.mod hm4 (by simp), hv3, HM.out.trans (hm4.mono (by simp)), HF.out, HG'.out, HQF.out⟩; clear hv3 hm3 hm4) | (at_builtin; (refine wpList_append_bytes rfl _ _ rfl (HP.out.1.mod ((Mod.refl [] _).alloc _) (by simp)) rfl (bs_one _ 5 (x := UInt8.ofNat kn) HKB.out) rfl ?_ ?_; rotate_left; (simp only [List.length_append, List.length_cons, List.length_nil]; have := HBL.out; have := HL1.out; have := HL2.out; have := HNL.out; have := HKE.out; have := HTE.out; (try have := putNum_length10 m (by omega)); omega)); intro A4 n4 cap4 w4 hown4 hn4 hm4 HF4; obtain ⟨A5, n5, cap5, he5, hp5⟩ := HP.out.app (e := .returned (.slice A4 n4 cap4)) ⟨A4, n4, cap4, rfl, hown4, ((Mod.refl _ _).alloc _).trans hm4, fun b hb => (HF4.out b hb).imp id (by simp; omega)⟩; injection he5 with he5; injection he5 with e1 e2 e3; subst e1 e2 e3; clear hown4 hm4 HP; have HP := Lib.hid hp5; clear hp5 HF4 hn4; clear c0 c1 c2 c3 c36; obtain ⟨c0, c1, c2, c3, c36, _, _, HH⟩ := OpV.open_ HP.out.2.2.1; rw [HKN.out] at c0; rw [HAO.out] at c36) | ((with_reducible refine wpList_convert_bytes _ rfl ?hgd (s := o.key) ?hx ?_ ?_); (case hgd => exact rfl); (case hx => exact rfl); omega; intro gb nb capb wb hbs hmb hgb hgl2 HNB; have hp5 := HP.out.mod hmb; have hnb := fun hb => Nat.lt_irrefl gb (Nat.lt_of_lt_of_le (HP.out.1.lt gb hb) hgb); clear HP; have HP := Lib.hid hp5; have HBS := Lib.hid hbs; have HNB2 := Lib.hid hnb; clear hp5 hbs hnb hmb hgb hgl2; clear c0 c1 c2 c3 c36; obtain ⟨c0, c1, c2, c3, c36, _, _, HH⟩ := OpV.open_ HP.out.2.2.1; rw [HKN.out] at c0; rw [HAO.out] at c36) | ((with_reducible refine wpList_convert_bytes _ rfl ?hgd (s := o.text) ?hx ?_ ?_); (case hgd => exact rfl); (case hx => exact rfl); omega; intro gb nb capb wb hbs hmb hgb hgl2 HNB; have hp5 := HP.out.mod hmb; have hnb := fun hb => Nat.lt_irrefl gb (Nat.lt_of_lt_of_le (HP.out.1.lt gb hb) hgb); clear HP; have HP := Lib.hid hp5; have HBS := Lib.hid hbs; have HNB2 := Lib.hid hnb; clear hp5 hbs hnb hmb hgb hgl2; clear c0 c1 c2 c3 c36; obtain ⟨c0, c1, c2, c3, c36, _, _, HH⟩ := OpV.open_ HP.out.2.2.1; rw [HKN.out] at c0; rw [HAO.out] at c36) | (go_at_call 70; refine (refBytes_any _ _ _ gb _ _ HP.out.1 HBS.out (fun _ => HNB2.out) (by (simp only [List.length_append, List.length_cons, List.length_nil]; have := HBL.out; have := HL1.out; have := HL2.out; have := HNL.out; have := HKE.out; have := HTE.out; (try have := putNum_length10 m (by omega)); omega))).mono ?_; rintro e' w6 hp6; obtain ⟨A6, n6, cap6, rfl, hp6'⟩ := HP.out.app hp6; clear HP hp6; have HP := Lib.hid hp6'; clear hp6'; clear c0 c1 c2 c3 c36; obtain ⟨c0, c1, c2, c3, c36, _, _, HH⟩ := OpV.open_ HP.out.2.2.1; rw [HKN.out] at c0; rw [HAO.out] at c36) | (go_at_call 71; refine (hasText_any _ _).mono ?_; rintro e' w7 ⟨rfl, rfl⟩) | (go_at_call 73; refine (hasAt_any _ _).mono ?_; rintro e' w7 ⟨rfl, rfl⟩) | (go_at_call 72; refine (refZig_any _ HON1 HON2 _).mono ?_; rintro e' w7 ⟨rfl, rfl⟩) | (go_at_call 54; refine (refNumber_any _ _ _ _ HP.out.1 (by first | omega | exact zig_lt _ HON1 HON2) (by (simp only [List.length_append, List.length_cons, List.length_nil]; have := HBL.out; have := HL1.out; have := HL2.out; have := HNL.out; have := HKE.out; have := HTE.out; (try have := putNum_length10 m (by omega)); omega))).mono ?_; rintro e' w6 hp6; obtain ⟨A6, n6, cap6, rfl, hp6'⟩ := HP.out.app hp6; clear HP hp6; have HP := Lib.hid hp6'; clear hp6'; clear c0 c1 c2 c3 c36; obtain ⟨c0, c1, c2, c3, c36, _, _, HH⟩ := OpV.open_ HP.out.2.2.1; rw [HKN.out] at c0; rw [HAO.out] at c36) | (go_at_call 54; refine (refNumber0_any _ _ _ HP.out.1 (by (simp only [List.length_append, List.length_cons, List.length_nil]; have := HBL.out; have := HL1.out; have := HL2.out; have := HNL.out; have := HKE.out; have := HTE.out; (try have := putNum_length10 m (by omega)); omega))).mono ?_; rintro e' w6 hp6; obtain ⟨A6, n6, cap6, rfl, hp6'⟩ := HP.out.app hp6; clear HP hp6; have HP := Lib.hid hp6'; clear hp6'; clear c0 c1 c2 c3 c36; obtain ⟨c0, c1, c2, c3, c36, _, _, HH⟩ := OpV.open_ HP.out.2.2.1; rw [HKN.out] at c0; rw [HAO.out] at c36) | ((with_reducible refine wpList_load_hash _ rfl ?hgd HH.out ?hx ?_); (case hgd => exact rfl); (case hx => exact rfl)) | (go_at_call 55; refine (refHash_any _ _ _ _ HP.out.1 (by (simp only [List.length_append, List.length_cons, List.length_nil]; have := HBL.out; have := HL1.out; have := HL2.out; have := HNL.out; have := HKE.out; have := HTE.out; (try have := putNum_length10 m (by omega)); omega))).mono ?_; rintro e' w6 hp6; obtain ⟨A6, n6, cap6, rfl, hp6'⟩ := HP.out.app hp6; clear HP hp6; have HP := Lib.hid hp6'; clear hp6'; clear c0 c1 c2 c3 c36; obtain ⟨c0, c1, c2, c3, c36, _, _, HH⟩ := OpV.open_ HP.out.2.2.1; rw [HKN.out] at c0; rw [HAO.out] at c36))
        go_roundw
        case rel =>
          refine ⟨j + 1, A6, n6, cap6, by go_num, by omega, rfl, Lib.hid HP.out.2.1, Lib.hid (own_eq HP.out.1 ?_), Lib.hid HP.out.2.2.2.1, Lib.hid HP.out.2.2.2.2.1, Lib.hid HP.out.2.2.2.2.2.1⟩
          rw [HTK.out, List.flatMap_append, ← List.append_assoc, HBE.out]
          have hop := put_eq o kn HKN.out hkn9 _ HAO.out
          rw [hT, hA] at hop
          simp only [List.flatMap_cons, List.flatMap_nil, List.append_nil]
          rw [hop]
          first
            | (have hk6 := of_decide_eq_true h6; simp [hk6, putText, putAt0]; done)
            | (have hk6 := of_decide_eq_false h6; simp [hk6, putText, putAt0]; done)
            | (have hk6 := of_decide_eq_false h6; have hmn : ¬ ((m : Nat) : Int) = 0 := by omega; rw [if_neg hmn]; simp [hk6, putText]; done)
            | (have hmn : ¬ ((m : Nat) : Int) = 0 := by omega
               have hk6 := of_decide_eq_false h6
               rw [if_neg hmn]; simp [hk6, putText])
        case measure => simp [intOf]; omega
    · have hje : j = l.length := by omega
      subst hje
      go_wp2
      go_ret
      have e : xs ++ putNum l.length ++ (l.take l.length).flatMap putOp = xs ++ putOps l := by rw [List.take_length, List.append_assoc]; rfl
      exact ⟨A', n', cap', rfl, by rw [← e]; exact HO.out, HM.out, HF.out⟩
end Go.Proofs.Ytlpjeckhejbkkaa
