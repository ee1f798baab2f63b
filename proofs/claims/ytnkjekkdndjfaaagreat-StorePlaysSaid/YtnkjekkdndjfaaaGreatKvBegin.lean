
/- Chapter 9: HasPrefix, begin, All. -/
import Derived.Test.YtnkjekkdndjfaaaGreatKvItems
import Derived.Test.YtnkjekkdndjfaaaGreatIter
import Derived.Lib.MinMax
namespace Go.Proofs.YtnkjekkdndjfaaaGreat
set_option linter.unusedVariables false
set_option linter.unusedSimpArgs false
open Go.RowKit
theorem own_form {w : World} {base s n : Nat} {e : TypeId} {v : Value} {xs : List Value} (h : w.ownsRow base e s v n xs) : ∃ A c, v = .slice A n c := by
  rcases h.2 with ⟨rfl, h0⟩ | ⟨g, cap, cur, rfl, _⟩
  · exact ⟨none, 0, by rw [h0]⟩
  · exact ⟨_, _, rfl⟩
set_option maxHeartbeats 400000 in
theorem slprefix_any (s p : ByteArray) (w : World) : Calls Tryz.prog 149 #[.string s, .string p] w fun r w' => r = .returned (.bool (begB p s)) ∧ w = w' := by
  unfold begB
  by_cases h : p.size ≤ s.size
  · rw [decide_eq_true h]
    have hq : ((s.extract 0 p.size).toList == p.toList) = decide (s.extract 0 p.size = p) := ba_beq _ _
    generalize decide (s.extract 0 p.size = p) = q at *
    go_enter Tryz.func149, Tryz.ntmps149
    go_wp2_with fail
    go_ret
    exact ⟨by simp, rfl⟩
  · rw [decide_eq_false h]
    go_enter Tryz.func149, Tryz.ntmps149
    go_wp2_with fail
    go_ret
    exact ⟨by simp, rfl⟩
theorem prefix_any (s p : ByteArray) (w : World) : Calls Tryz.prog 119 #[.string s, .string p] w fun r w' => r = .returned (.bool (begB p s)) ∧ w = w' := by
  have H := slprefix_any s p w
  go_enter Tryz.func119, Tryz.ntmps119
  go_wp2_with ((with_reducible refine calls_id ?_); refine H.mono ?_; rintro r w2 ⟨rfl, rfl⟩)
  go_ret
  exact ⟨rfl, rfl⟩
theorem filter_take {l : List It} {p : It → Bool} {k : Nat} (h : k < l.length) : (l.take (k + 1)).filter p = (l.take k).filter p ++ (if p l[k] then [l[k]] else []) := by
  rw [List.take_succ_eq_append_getElem h, List.filter_append]
  congr 1
  simp only [List.filter_cons, List.filter_nil]
theorem getI_at {l : List It} (ha : Asc l) {k : Nat} (h : k < l.length) : getI l (l[k]).k = l[k] := by
  unfold getI findI
  have : l.find? (fun x => decide (x.k = (l[k]).k)) = some l[k] := by
    rw [List.find?_eq_some_iff_getElem]
    refine ⟨by simp, k, h, rfl, ?_⟩
    intro j hj
    have := (List.pairwise_iff_getElem.1 ha) j k (by omega) h hj
    have hne := kless_ne this
    simp [hne]
  rw [this]; rfl
set_option maxRecDepth 100000 in
set_option maxHeartbeats 4000000 in
theorem begin_any {g b N : Nat} {rev : Int} {l : List It} (a : ByteArray) (w : World) (hst : IsSt w g b N rev l) (hN : N ≤ 1000000) (hk : ∀ x ∈ l, x.k.size ≤ 1000) :
    Calls Tryz.prog 65 #[.pointer (some ⟨g, 0, none⟩), .string a] w fun r w' => ∃ A2 n2 c2, r = .returned (.slice A2 n2 c2) ∧ OwnI w' w.heap.size A2 n2 c2 (l.filter fun x => begB a x.k) ∧ Below w.heap.size w w' := by
  have hlen := hst.mp.len_le
  have hasc := hst.mp.asc
  obtain ⟨D, ho, hD⟩ := id hst.mp
  have hsz := hD.size
  have hsr := sortedKeys_any b N D itR w ho (by rw [hsz]; simp only [maxLen]; omega) (by rw [hsz]; omega)
  have hss := fun ss h => hD.sorted (ss := ss) ho h
  have HSR := Lib.hid (callsIn_wide.1 hsr)
  have HSS := Lib.hid hss
  have HST := Lib.hid hst
  have HK := Lib.hid hk
  have HA := Lib.hid hasc
  obtain ⟨x, xf⟩ := at2 hst.at_
  obtain ⟨x0, x1⟩ := x
  obtain ⟨f0, f1⟩ := xf
  clear hsr hss hst hk ho hD hsz hasc
  have HMK := Lib.hid (callsIn_wide.1 (mapsKeys_any (some b) w))
  go_enter Tryz.func65, Tryz.ntmps65
  go_upto_region 4 with fail
  go_upto_region 5 with (first
    | ((with_reducible refine calls_id ?_); refine HMK.out.mono ?_; rintro r w1 ⟨rfl, rfl⟩)
    | (((with_reducible refine calls_id ?_); refine HSR.out.mono ?_; rintro r w2 ⟨v, ss, rfl, hS, hrow, hnil, hb2⟩); obtain ⟨As, cs, rfl⟩ := own_form hrow))
  have e := HSS.out ss hS
  have hsl : ss.length = l.length := by have := congrArg List.length e; rw [List.length_mergeSort, List.length_map] at this; exact this
  have hb1 : Below w.heap.size w w2 := ((Below.refl _ _).alloc (Nat.le_refl _) _).trans (hb2.mono (by simp))
  have hrd := Rd.of_own hrow
  rw [show (ss.mergeSort fun x y => decide (x ≤ y)) = l.map (fun x => x.k.toList) from e, List.map_map, hsl] at hrd
  have hcell : (l.map (encStr ∘ fun x => x.k.toList)) = l.map fun x => Value.string x.k := by
    apply List.map_congr_left
    intro x _
    simp only [Function.comp, encStr]
    congr 1
    apply ba_ext
    rw [Lib.toList_data]
  rw [hcell] at hrd
  rw [hsl]
  have hmax := hrd.max
  have hle := hrd.le
  unfold maxLen at hmax
  have HR := Lib.hid hrd
  have HB := Lib.hid hb1
  have HS2 := Lib.hid (HST.out.step hb1)
  clear e hsl hb1 hrd hcell hb2 hrow hnil hS HSS HSR HMK x0 x1 f0 f1
  generalize World.alloc _ _ = w1 at *
  go_wp2_with fail
  go_loopw [5, 17] (fun v i wr => ∃ (k n1 c1 : Nat) (A1 : Option Addr), i = .int .i64 (k : Int) ∧ v = .slice A1 n1 c1 ∧ k ≤ l.length ∧ OwnI wr w2.heap.size A1 n1 c1 ((l.take k).filter fun x => begB a x.k) ∧ Below w2.heap.size w2 wr) (fun _ i _ => l.length - (intOf i).toNat)
  case atStart => exact ⟨0, 0, 0, none, rfl, rfl, Nat.zero_le _, OwnI.nil, Below.refl _ _⟩
  case round =>
    obtain ⟨k, n1, c1, A1, rfl, rfl, hk, hown, hb⟩ := hrel
    have hn1 : n1 ≤ k := by
      rw [hown.len]
      exact Nat.le_trans (List.length_filter_le _ _) (by rw [List.length_take]; omega)
    have hsz : w.heap.size ≤ wr.heap.size := Nat.le_trans HB.out.size hb.size
    have hB := chain HB.out hb
    by_cases hlt : k < l.length
    · obtain ⟨gs, off, u, eA, hgs, hu, hc⟩ := (HR.out.step hb).get (k := k) hlt
      subst eA
      rw [List.getElem?_map, List.getElem?_eq_getElem hlt] at hu
      simp only [Option.map_some, Option.some.injEq] at hu
      subst hu
      have hst := HS2.out.step hb
      have hkk := HK.out _ (List.getElem_mem hlt)
      have hlook := hst.mp.look1 (k := (l[k]).k) (by simp only [maxLen]; omega)
      rw [getI_at HA.out hlt] at hlook
      have hft := filter_take (p := fun x => begB a x.k) hlt
      have hpre := fun w => prefix_any (l[k]).k a w
      generalize l[k] = y at *
      obtain ⟨yk, yv, yr⟩ := y
      unfold It.val at hlook
      simp only at hlook hc hpre hft
      obtain ⟨⟨x0, x1⟩, f0, f1⟩ := at2 hst.at_
      have HW := Lib.hid hown
      have HBB := Lib.hid hb
      have HF := Lib.hid hft
      have HP := Lib.hid hpre
      have hbn := (one_at wr 35 [.string yk, .string yv, .int .i64 yr]).2
      have hN := Rd.lit (w := wr) (t := 35) (n := 1) (cs := [.string yk, .string yv, .int .i64 yr]) rfl (by simp [maxLen]) (by omega : 0 < 3)
      have HN := Lib.hid hN
      have HO := Lib.hid (HW.out.step hbn)
      have HBN := Lib.hid (hbn.mono HBB.out.size)
      have HBN2 := Lib.hid hbn.size
      clear hb hown hft hpre hst hbn hN hB
      cases hq : begB a yk with
      | false =>
        rw [hq] at HP HF
        go_wp2_with (((with_reducible refine calls_id ?_); refine (HP.out _).mono ?_; rintro r w3 ⟨rfl, rfl⟩))
        go_roundw
        case rel => exact ⟨k + 1, n1, c1, A1, by go_num, rfl, by omega, by rw [HF.out]; simpa using HW.out, HBB.out⟩
        case measure => simp [intOf]; omega
      | true =>
        rw [hq] at HP HF
        go_wp2_with (first | (((with_reducible refine calls_id ?_); refine (HP.out _).mono ?_; rintro r w3 ⟨rfl, rfl⟩)) | (at_builtin; refine app_i rfl (.tmp 24) (.tmp 31) rfl rfl HO.out [⟨yk, yv, yr⟩] rfl HN.out (Nat.le_trans HBB.out.size HBN2.out) (by omega) ?_; intro A3 c3 w4 hW4 hG4 hB4))
        have hb4 := (HBB.out.trans HBN.out).trans hB4
        go_roundw
        case rel => exact ⟨k + 1, n1 + 1, c3, A3, by go_num, rfl, by omega, by rw [HF.out]; simpa using hW4, hb4⟩
        case measure => simp [intOf]; omega
    · obtain rfl : k = l.length := by omega
      rw [List.take_length] at hown
      have HW := Lib.hid hown
      clear hown hb
      go_wp2_with fail
      go_ret
      exact ⟨A1, n1, c1, rfl, HW.out.lower HB.out.size, hB⟩
theorem begB_nil (k : ByteArray) : begB ⟨#[]⟩ k = true := by
  unfold begB
  rw [Bool.and_eq_true]
  refine ⟨decide_eq_true (Nat.zero_le _), decide_eq_true ?_⟩
  apply ByteArray.ext
  have : (k.extract 0 (ByteArray.size ⟨#[]⟩)).size = 0 := by rw [ByteArray.size_extract, show ByteArray.size ⟨#[]⟩ = 0 from rfl]; omega
  exact Array.eq_empty_of_size_eq_zero this
theorem all_any {g b N : Nat} {rev : Int} {l : List It} (w : World) (hst : IsSt w g b N rev l) (hN : N ≤ 1000000) (hk : ∀ x ∈ l, x.k.size ≤ 1000) :
    Calls Tryz.prog 38 #[.pointer (some ⟨g, 0, none⟩)] w fun r w' => ∃ A2 n2 c2, r = .returned (.slice A2 n2 c2) ∧ OwnI w' w.heap.size A2 n2 c2 l ∧ Below w.heap.size w w' := by
  have hb := begin_any ⟨#[]⟩ w hst hN hk
  have hf : (l.filter fun x => begB ⟨#[]⟩ x.k) = l := by rw [List.filter_eq_self]; intro x _; exact begB_nil _
  rw [hf] at hb
  have HB := Lib.hid hb
  clear hb
  go_enter Tryz.func38, Tryz.ntmps38
  go_wp2_with (((with_reducible refine calls_id ?_); refine HB.out.mono ?_; rintro r w2 ⟨A2, n2, c2, rfl, ho, hb⟩))
  go_ret
  exact ⟨A2, n2, c2, rfl, ho, hb⟩
end Go.Proofs.YtnkjekkdndjfaaaGreat
