
/- Chapter 10: redo.PutState; the document's. -/
import Derived.Test.YtnkjekkdndjfaaaGreatRedoB
import Derived.Test.YtnkjekkdndjfaaaGreatStPure
import Derived.Test.YtnkjekkdndjfaaaGreatKvBegin
import Derived.Test.YtnkjekkdndjfaaaGreatKvRP
namespace Go.Proofs.YtnkjekkdndjfaaaGreat
set_option linter.unusedVariables false
set_option linter.unusedSimpArgs false
open Go.RowKit
def preL (rev : Int) (l : List It) (k : Nat) : List UInt8 := putN rev.toNat 8 ++ (putN l.length 4 ++ (l.take k).flatMap itemL)
theorem preL_zero (rev : Int) (l : List It) : preL rev l 0 = putN rev.toNat 8 ++ putN l.length 4 := by simp [preL]
theorem preL_succ {rev : Int} {l : List It} {k : Nat} (h : k < l.length) : preL rev l (k + 1) = preL rev l k ++ itemL l[k] := by
  unfold preL
  rw [List.take_succ_eq_append_getElem h, List.flatMap_append]
  simp
theorem preL_end (rev : Int) (l : List It) : preL rev l l.length = stL rev l := by unfold preL stL; rw [List.take_length]
/-- what can be put -/
def smallI (x : It) : Prop := x.k.size ≤ 128 ∧ x.v.size ≤ 65536 ∧ 0 ≤ x.r ∧ x.r < 9223372036854775808
theorem items_len {l : List It} (h : ∀ x ∈ l, smallI x) : (l.flatMap itemL).length ≤ l.length * 65680 := by
  induction l with
  | nil => simp
  | cons x l ih =>
    have h1 := itemL_length x
    have h2 := h x (by simp)
    unfold smallI at h2
    have h3 := ih fun y hy => h y (by simp [hy])
    rw [List.flatMap_cons, List.length_append, List.length_cons]
    omega
theorem preL_len {rev : Int} {l : List It} (h : ∀ x ∈ l, smallI x) (k : Nat) : (preL rev l k).length ≤ 12 + l.length * 65680 := by
  unfold preL
  simp only [List.length_append, putN_length]
  have h1 := items_len (l := l.take k) fun x hx => h x (List.mem_of_mem_take hx)
  have h2 : (l.take k).length ≤ l.length := by rw [List.length_take]; omega
  have h3 : (l.take k).length * 65680 ≤ l.length * 65680 := Nat.mul_le_mul_right _ h2
  omega
theorem stL_len {rev : Int} {l : List It} (h : ∀ x ∈ l, smallI x) : (stL rev l).length ≤ 12 + l.length * 65680 := by rw [← preL_end]; exact preL_len h _
theorem u64_nat (m : Nat) (h : m < 18446744073709551616) : IntKind.u64.wrap (m : Int) = (m : Int) := by show (m : Int) % 18446744073709551616 = (m : Int); omega
theorem OwnB.step {w w' : World} {base n c : Nat} {A : Option Addr} {l : List UInt8} (h : OwnB w base A n c l) (hb : Below w.heap.size w w') : OwnB w' base A n c l := own_below h hb
set_option maxRecDepth 100000 in
set_option maxHeartbeats 4000000 in
theorem putstate_any {g m N : Nat} {rev : Int} {l : List It} (w : World) (hst : IsSt w g m N rev l) (hN : N ≤ 100000) (hx : ∀ x ∈ l, smallI x) (h0 : 0 ≤ rev) (h1 : rev < 9223372036854775808) :
    Calls Tryz.prog 46 #[.pointer (some ⟨g, 0, none⟩)] w fun x w' => ∃ A n c, x = .returned (.tuple #[.slice A n c, .int .i64 0]) ∧ OwnB w' w.heap.size A n c (stL rev l) ∧ Below w.heap.size w w' := by
  have hll := hst.mp.len_le
  obtain ⟨R, rfl⟩ := Int.eq_ofNat_of_zero_le h0
  have hu := u64_nat R (by omega)
  have hul : IntKind.u64.wrap (l.length : Int) = (l.length : Int) := u64_nat _ (by omega)
  have HALL := all_any w hst (by omega) fun x h => by have := (hx x h).1; omega
  have hlen := preL_len (rev := (R : Int)) hx
  go_enter Tryz.func46, Tryz.ntmps46
  go_upto_region 4 with (((with_reducible refine (HALL).mono ?_); rintro z w1 ⟨A1, n1, c1, rfl, hown1, hb1⟩))
  have HREV := rev_any w1 (hst.step hb1)
  have hn1 := hown1.len
  subst hn1
  have HP := put_any none 0 0 [] R 8 w1 RdB.nil (by omega) (by omega) (by omega) (by omega)
  simp only [Int.cast_ofNat_Int] at HP
  clear HALL hst
  go_upto_region 5 with (first | (((with_reducible refine (HREV).mono ?_); rintro z v ⟨rfl, rfl⟩)) | (((with_reducible refine (HP).mono ?_); rintro z w2 ⟨A2, c2, rfl, hown2, hb2⟩)))
  rw [Nat.zero_add, List.nil_append] at hown2
  have HP2 := put_any A2 8 c2 (putN R 8) l.length 4 w2 hown2.rd (by omega) (by omega) (by omega) (by omega)
  simp only [Int.cast_ofNat_Int] at HP2
  clear HREV HP
  go_upto_region 6 with (((with_reducible refine (HP2).mono ?_); rintro z w3 ⟨A3, c3, rfl, hown3, hb3⟩))
  replace hown1 := (hown1.step hb2).step hb3
  have hb12 := chain hb1 hb2
  have hown3' : OwnB w3 w.heap.size A3 (8 + 4) c3 (preL (R : Int) l 0) := by
    rw [preL_zero]
    exact own_lower (show World.ownsRow _ _ _ _ _ _ _ from hown3) hb12.size
  have hbw3 := chain hb12 hb3
  have HR := Lib.hid (show RdI w3 w3.heap.size A1 l.length c1 l from hown1.rd)
  have HO0 := Lib.hid hown3'
  have HB0 := Lib.hid hbw3
  have HX := Lib.hid hx
  have HLEN := Lib.hid hlen
  have hz3 := hbw3.size
  clear HP2 hown1 hown2 hown3 hown3' hb1 hb2 hb3 hb12 hbw3 hu hx hlen
  go_wp2_with fail
  go_loopw [5, 23] (fun v i wr => ∃ (k n4 c4 : Nat) (A4 : Option Addr), i = .int .i64 (k : Int) ∧ v = .slice A4 n4 c4 ∧ k ≤ l.length ∧ OwnB wr w.heap.size A4 n4 c4 (preL (R : Int) l k) ∧ Below w3.heap.size w3 wr) (fun _ i _ => l.length - (intOf i).toNat)
  case atStart => exact ⟨0, _, _, _, rfl, rfl, Nat.zero_le _, HO0.out, Below.refl _ _⟩
  case round =>
    clear HO0
    obtain ⟨k, n4, c4, A4, rfl, rfl, hk, hown, hb⟩ := hrel
    have hn4 := hown.length
    have hsz := hb.size
    have hlenk := HLEN.out k
    by_cases hlt : k < l.length
    · obtain ⟨gs, off, e, hg, he⟩ := HR.out.elem It.row_length (by omega) (k := k) hlt
      subst e
      have hbc := bcell (Below.mono (B := w3.heap.size) hb (Nat.le_refl _))
      have e0 := (hbc.1 _ _ hg).trans (he 0 _ rfl)
      have e1 := (hbc.1 _ _ hg).trans (he 1 _ rfl)
      have e2 := (hbc.1 _ _ hg).trans (he 2 _ rfl)
      rw [Nat.add_zero] at e0
      have hsm := HX.out l[k] (List.getElem_mem hlt)
      have hps := preL_succ (rev := (R : Int)) hlt
      have hlenk1 := HLEN.out (k + 1)
      clear he hbc
      generalize l[k] = y at *
      obtain ⟨yk, yv, yr⟩ := y
      unfold smallI at hsm
      unfold itemL at hps
      simp only at e0 e1 e2 hsm hps
      obtain ⟨hsk, hsv, hr0, hr1⟩ := hsm
      obtain ⟨r, rfl⟩ := Int.eq_ofNat_of_zero_le hr0
      have hur := u64_nat r (by omega)
      rw [Int.toNat_natCast] at hps
      have HPS := Lib.hid hps
      have HB := Lib.hid hb
      have HW := Lib.hid hown
      clear hps hb hown hr0 hlenk1
      go_upto_region 9 with fail
      obtain ⟨hy, hb2⟩ := one_at wr 35 [.string yk, .string yv, .int .i64 (r : Int)]
      have HB := Lib.hid (chain HB.out hb2)
      have HW := Lib.hid (HW.out.step hb2)
      clear hb2 e0 e1 e2
      generalize World.alloc _ _ = w5 at *
      obtain ⟨gy, hgy⟩ : ∃ gy, wr.heap.size = gy := ⟨_, rfl⟩
      rw [hgy] at hy hsz ⊢
      clear hgy
      obtain ⟨⟨y0, y1, y2⟩, yf⟩ := at3 hy
      have HP := put_any A4 n4 c4 _ r 8 w5 HW.out.rd (by omega) (by omega) (by omega) (by omega)
      simp only [Int.cast_ofNat_Int] at HP
      go_upto_region 10 with (((with_reducible refine (HP).mono ?_); rintro z w6 ⟨A6, c6, rfl, hown6, hb6⟩))
      have hgy5 := hy.lt
      replace hy := hy.step hb6
      have HB := Lib.hid (chain HB.out hb6)
      have hown6' := own_lower (show World.ownsRow _ _ _ _ _ _ _ from hown6) (show w.heap.size ≤ w5.heap.size by omega)
      have hgy6 := hy.lt
      clear HP HW hown6 hb6 y0 y1 y2 yf
      have k0 : ∀ w', Below w6.heap.size w6 w' → w'.cell? ⟨gy, 0, none⟩ = some (.string yk) := fun w' hb => (at3 (hy.step hb)).1.1
      have k1 : ∀ w', Below w6.heap.size w6 w' → w'.cell? ⟨gy, 1, none⟩ = some (.string yv) := fun w' hb => (at3 (hy.step hb)).1.2.1
      refine region_begin (fun w' => Below w6.heap.size w6 w') (by kernel_rfl) (Below.drew (Below.refl _ _)) (fun hHeld => ?_)
      refine tag [0,1,2,4,5] ?_
      iterate 5 (
        refine sH (v := ?_) rfl (by kernel_rfl) (fun _ _ _ h => h) (Or.inl ⟨by kernel_rfl, ?_⟩) (by assumption) ?_
        rotate_left
        · (intro wS hwS; (try dsimp only at hwS); go_simp; try (first | (with_reducible rfl) | rw [if_pos (by omega)] | rw [if_neg (by omega)]))
        try simp only [PT])
      refine tagN ?_
      refine region_one 3 (by kernel_rfl) rfl (fun K hK => ?_)
      go_simp
      refine (long_any _ _ _ _ yk _ (RdB.more (RdB.below (OwnB.rd hown6') hHeld) hHeld.size) (by omega) (by omega)).mono ?_
      rintro x w7 ⟨A7, c7, rfl, hown7, hb7⟩
      have hb67 := chain hHeld hb7
      refine hK.out _ _ (fun w' => Below w7.heap.size w7 w') (Below.refl _ _) (fun w' h => chain hb67 h) (fun hHeld => ?_)
      clear hK K
      try simp only [PT]
      refine region_one 6 (by kernel_rfl) rfl (fun K hK => ?_)
      go_simp
      refine (long_any _ _ _ _ yv _ (RdB.more (RdB.below (OwnB.rd hown7) hHeld) hHeld.size) (by omega) (by omega)).mono ?_
      rintro x w8 ⟨A8, c8, rfl, hown8, hb8⟩
      have hb68 := chain (chain hb67 hHeld) hb8
      have hown8' := own_lower (show World.ownsRow _ _ _ _ _ _ _ from hown8) (show w.heap.size ≤ _ from Nat.le_trans (by omega) (Nat.le_trans hb67.size hHeld.size))
      refine hK.out _ _ (fun w' => w' = w8) (rfl) (fun w' h => h ▸ chain hHeld hb8) (fun hHeld => ?_)
      clear hK K
      try simp only [PT]
      refine tag [7] ?_
      refine sH (v := ?_) rfl (by kernel_rfl) (fun _ _ _ h => h) (Or.inl ⟨by kernel_rfl, ?_⟩) (by assumption) ?_
      rotate_left
      · (intro wS hwS; (try dsimp only at hwS); go_simp; try (first | (with_reducible rfl) | rw [if_pos (by omega)] | rw [if_neg (by omega)]))
      try simp only [PT]
      refine tagN ?_
      refine wpAnyH_done (by kernel_rfl) ?_ _
      have hfin := chain HB.out hb68
      have hfo : OwnB w8 w.heap.size A8 (n4 + 8 + (4 + yk.size) + (4 + yv.size)) c8 (preL (R : Int) l (k + 1)) := by
        rw [HPS.out]
        have h := hown8'
        simp only [List.append_assoc] at h ⊢
        exact h
      clear k0 k1 hy hHeld hb67 hb68 hb7 hb8 hown8 hown8' hown7 hown6'
      go_wp2_with fail
      go_roundw
      case rel => exact ⟨k + 1, n4 + 8 + (4 + yk.size) + (4 + yv.size), c8, A8, by go_num, rfl, by omega, hfo, hfin⟩
      case measure => simp [intOf]; omega
    · obtain rfl : k = l.length := by omega
      rw [preL_end] at hown
      have HW := Lib.hid hown
      have hfin := HB0.out.trans (hb.mono hz3)
      have HB := Lib.hid hfin
      clear hown hb hfin
      go_wp2_with fail
      exact bodyPost_ret (v := .tuple #[.slice A4 n4 c4, .int .i64 0]) (by simp [results, Tryz.results46, go_sem]) rfl ⟨_, _, _, rfl, HW.out, HB.out⟩
theorem putstate_nil (w : World) : Calls Tryz.prog 46 #[.pointer none] w fun x w' => x = .returned (.tuple #[.slice none 0 0, .int .i64 2]) ∧ w = w' := by
  go_enter Tryz.func46, Tryz.ntmps46
  go_wp2_with fail
  exact bodyPost_ret (v := .tuple #[.slice none 0 0, .int .i64 2]) (by simp [results, Tryz.results46, go_sem]) rfl ⟨rfl, rfl⟩
set_option maxRecDepth 100000 in
set_option maxHeartbeats 4000000 in
theorem rputstate_any (A : Option Addr) (n c : Nat) (rev : Int) (l : List It) (w : World) (hr : RdI w w.heap.size A n c l) (hn : n ≤ 100000) (hx : ∀ x ∈ l, smallI x) (h0 : 0 ≤ rev) (h1 : rev < 9223372036854775808) :
    Calls Tryz.prog 54 #[.agg #[.int .i64 rev, .slice A n c]] w fun x w' => x = .returned (.string ⟨(stL rev l).toArray⟩) ∧ Below w.heap.size w w' := by
  have hl := RdI.len hr
  have hmax := hr.max
  have hle := hr.le
  unfold maxLen at hmax
  subst hl
  obtain ⟨R, rfl⟩ := Int.eq_ofNat_of_zero_le h0
  have hu := u64_nat R (by omega)
  have hul : IntKind.u64.wrap (l.length : Int) = (l.length : Int) := u64_nat _ (by omega)
  have hlen := preL_len (rev := (R : Int)) hx
  obtain ⟨hs, hb0⟩ := one_at w 41 [.int .i64 (R : Int), .slice A l.length c]
  have HR := Lib.hid hr
  have HX := Lib.hid hx
  have HLEN := Lib.hid hlen
  have hz := preL_zero (R : Int) l
  rw [Int.toNat_natCast] at hz
  have hP8 : ∀ w, _ := fun w => ref_put R 8 w (by omega) (by omega) (by omega)
  have hP4 : ∀ w, _ := fun w => ref_put l.length 4 w (by omega) (by omega) (by omega)
  have e1 : (⟨(putN R 8).toArray⟩ ++ ⟨(putN l.length 4).toArray⟩ : ByteArray) = ⟨(preL (R : Int) l 0).toArray⟩ := by rw [hz]; exact cat_str _ _
  have s1 : ¬ 9223372036854775807 < (putN R 8).length + (putN l.length 4).length := by rw [putN_length, putN_length]; omega
  generalize putN R 8 = q8 at *
  generalize putN l.length 4 = q4 at *
  have HP8 := Lib.hid hP8
  have HP4 := Lib.hid hP4
  clear hr hx hlen hP8 hP4 hz h0
  go_enter Tryz.func54, Tryz.ntmps54
  go_upto_region 1 with fail
  have hsz := hs.lt
  generalize World.alloc w _ = w1 at *
  obtain ⟨gs, hgs⟩ : ∃ gs, w.heap.size = gs := ⟨_, rfl⟩
  have HB0 := Lib.hid hb0
  have HGS := Lib.hid hgs
  rw [hgs] at hs hsz ⊢
  clear hgs hb0
  have k0 : ∀ w', Below w1.heap.size w1 w' → w'.cell? ⟨gs, 0, none⟩ = some (.int .i64 (R : Int)) := fun w' hb => (at2 (hs.step hb)).1.1
  have k1 : ∀ w', Below w1.heap.size w1 w' → w'.cell? ⟨gs, 1, none⟩ = some (.slice A l.length c) := fun w' hb => (at2 (hs.step hb)).1.2
  refine region_begin (fun w' => Below w1.heap.size w1 w') (by kernel_rfl) (Below.drew (Below.refl _ _)) (fun hHeld => ?_)
  refine tag [0,1,2,5,6,7,8] ?_
  iterate 7 (
    refine sH (v := ?_) rfl (by kernel_rfl) (fun _ _ _ h => h) (Or.inl ⟨by kernel_rfl, ?_⟩) (by assumption) ?_
    rotate_left
    · (intro wS hwS; (try dsimp only at hwS); go_simp; try (first | (with_reducible rfl) | rw [if_pos (by omega)] | rw [if_neg (by omega)]))
    try simp only [PT])
  refine tagN ?_
  refine region_one 3 (by kernel_rfl) rfl (fun K hK => ?_)
  go_simp
  refine (HP8.out _).mono ?_
  rintro x w2 ⟨A2, rfl, hown2, hb2⟩
  have hb12 := chain hHeld hb2
  refine hK.out _ _ (fun w' => Below w2.heap.size w2 w') (Below.refl _ _) (fun w' h => chain hb12 h) (fun hHeld => ?_)
  clear hK K
  try simp only [PT]
  have k2 : ∀ w', Below w2.heap.size w2 w' → _ := fun w' h => conv_str (hown2.rd.below h)
  refine tag [4] ?_
  refine sH (v := ?_) rfl (by kernel_rfl) (fun _ _ _ h => h) (Or.inl ⟨by kernel_rfl, ?_⟩) (by assumption) ?_
  rotate_left
  · (intro wS hwS; (try dsimp only at hwS); go_simp; try (first | (with_reducible rfl) | rw [if_pos (by omega)] | rw [if_neg (by omega)]))
  try simp only [PT]
  refine tagN ?_
  clear k2
  refine region_one 9 (by kernel_rfl) rfl (fun K hK => ?_)
  go_simp
  refine (HP4.out _).mono ?_
  rintro x w3 ⟨A3, rfl, hown3, hb3⟩
  have hb13 := chain (chain hb12 hHeld) hb3
  refine hK.out _ _ (fun w' => Below w3.heap.size w3 w') (Below.refl _ _) (fun w' h => chain (chain hHeld hb3) h) (fun hHeld => ?_)
  clear hK K
  try simp only [PT]
  have k2 : ∀ w', Below w3.heap.size w3 w' → _ := fun w' h => conv_str (hown3.rd.below h)
  refine tag [10,11,12] ?_
  iterate 3 (
    refine sH (v := ?_) rfl (by kernel_rfl) (fun _ _ _ h => h) (Or.inl ⟨by kernel_rfl, ?_⟩) (by assumption) ?_
    rotate_left
    · (intro wS hwS; (try dsimp only at hwS); go_simp; try (first | (with_reducible rfl) | rw [if_pos (by omega)] | rw [if_neg (by omega)]))
    try simp only [PT])
  refine tagN ?_
  refine wpAnyH_done (by kernel_rfl) ?_ _
  replace hs := (hs.step hb13).step hHeld
  have hbw := chain (chain HB0.out hb13) hHeld
  clear k0 k1 k2 hb12 hb13 hb2 hb3 hown2 hown3 HB0 HP8 HP4 hHeld
  have HB0 := Lib.hid hbw
  have hw4 := hs.lt
  clear hbw
  obtain ⟨⟨x0, x1⟩, xf⟩ := at2 hs
  go_wp2_with fail
  clear x0 x1 xf e1 s1
  go_loopw [3, 21] (fun v i wr => ∃ k : Nat, i = .int .i64 (k : Int) ∧ v = .string ⟨(preL (R : Int) l k).toArray⟩ ∧ k ≤ l.length ∧ Below w.heap.size w wr) (fun _ i _ => l.length - (intOf i).toNat)
  case atStart => exact ⟨0, rfl, rfl, Nat.zero_le _, HB0.out⟩
  case round =>
    clear HB0 hs
    obtain ⟨k, rfl, rfl, hk, hb⟩ := hrel
    have hsz := hb.size
    have hlenk := HLEN.out k
    by_cases hlt : k < l.length
    · obtain ⟨gs, off, e, hg, he⟩ := HR.out.elem It.row_length (by omega) (k := k) hlt
      subst e
      have hbc := bcell (Below.mono (B := w.heap.size) hb (Nat.le_refl _))
      have e0 := (hbc.1 _ _ hg).trans (he 0 _ rfl)
      have e1 := (hbc.1 _ _ hg).trans (he 1 _ rfl)
      have e2 := (hbc.1 _ _ hg).trans (he 2 _ rfl)
      rw [Nat.add_zero] at e0
      have hsm := HX.out l[k] (List.getElem_mem hlt)
      have hps := preL_succ (rev := (R : Int)) hlt
      have hlenk1 := HLEN.out (k + 1)
      clear he hbc
      generalize l[k] = y at *
      obtain ⟨yk, yv, yr⟩ := y
      unfold smallI at hsm
      unfold itemL at hps
      simp only at e0 e1 e2 hsm hps
      obtain ⟨hsk, hsv, hr0, hr1⟩ := hsm
      obtain ⟨r, rfl⟩ := Int.eq_ofNat_of_zero_le hr0
      have hur := u64_nat r (by omega)
      rw [Int.toNat_natCast, ← List.append_assoc, ← List.append_assoc] at hps
      have hq := putN_length r 8
      have hlk := longL_length yk
      have hlv := longL_length yv
      have hP : ∀ w, _ := fun w => ref_put r 8 w (by omega) (by omega) (by omega)
      have hLK : ∀ w, _ := fun w => rlong_any yk w (by omega)
      have hLV : ∀ w, _ := fun w => rlong_any yv w (by omega)
      generalize putN r 8 = q at *
      generalize longL yk = lk at *
      generalize longL yv = lv at *
      have a1 : (⟨(preL (R : Int) l k).toArray⟩ ++ ⟨q.toArray⟩ : ByteArray) = ⟨(preL (R : Int) l k ++ q).toArray⟩ := cat_str _ _
      have a2 : (⟨(preL (R : Int) l k ++ q).toArray⟩ ++ ⟨lk.toArray⟩ : ByteArray) = ⟨(preL (R : Int) l k ++ q ++ lk).toArray⟩ := cat_str _ _
      have a3 : (⟨(preL (R : Int) l k ++ q ++ lk).toArray⟩ ++ ⟨lv.toArray⟩ : ByteArray) = ⟨(preL (R : Int) l k ++ q ++ lk ++ lv).toArray⟩ := cat_str _ _
      have s1 : ¬ 9223372036854775807 < (preL (R : Int) l k).length + q.length := by omega
      have s2 : ¬ 9223372036854775807 < (preL (R : Int) l k ++ q).length + lk.length := by simp only [List.length_append]; omega
      have s3 : ¬ 9223372036854775807 < (preL (R : Int) l k ++ q ++ lk).length + lv.length := by simp only [List.length_append]; omega
      rw [hps] at hlenk1
      have HPS := Lib.hid hps
      clear hps hlenk1 hlenk hq hlk hlv hr0
      generalize preL (R : Int) l k ++ q ++ lk ++ lv = p3 at *
      generalize preL (R : Int) l k ++ q ++ lk = p2 at *
      generalize preL (R : Int) l k ++ q = p1 at *
      obtain ⟨p0, hp0⟩ : ∃ p0, preL (R : Int) l k = p0 := ⟨_, rfl⟩
      rw [hp0] at a1 s1 ⊢
      clear hp0
      have HP := Lib.hid hP
      have HLK := Lib.hid hLK
      have HLV := Lib.hid hLV
      have HB := Lib.hid hb
      clear hP hLK hLV hb
      go_upto_region 5 with fail
      obtain ⟨hy, hb2⟩ := one_at wr 108 [.string yk, .string yv, .int .i64 (r : Int)]
      have HB := Lib.hid (chain HB.out hb2)
      clear hb2 e0 e1 e2
      generalize World.alloc _ _ = w5 at *
      obtain ⟨gy, hgy⟩ : ∃ gy, wr.heap.size = gy := ⟨_, rfl⟩
      rw [hgy] at hy hsz ⊢
      clear hgy
      have hgy6 := hy.lt
      have k0 : ∀ w', Below w5.heap.size w5 w' → w'.cell? ⟨gy, 0, none⟩ = some (.string yk) := fun w' hb => (at3 (hy.step hb)).1.1
      have k1 : ∀ w', Below w5.heap.size w5 w' → w'.cell? ⟨gy, 1, none⟩ = some (.string yv) := fun w' hb => (at3 (hy.step hb)).1.2.1
      have k2 : ∀ w', Below w5.heap.size w5 w' → w'.cell? ⟨gy, 2, none⟩ = some (.int .i64 (r : Int)) := fun w' hb => (at3 (hy.step hb)).1.2.2
      refine region_begin (fun w' => Below w5.heap.size w5 w') (by kernel_rfl) (Below.drew (Below.refl _ _)) (fun hHeld => ?_)
      refine tag [0,1,2,3,7,8,11,12] ?_
      iterate 8 (
        refine sH (v := ?_) rfl (by kernel_rfl) (fun _ _ _ h => h) (Or.inl ⟨by kernel_rfl, ?_⟩) (by assumption) ?_
        rotate_left
        · (intro wS hwS; (try dsimp only at hwS); go_simp; try (first | (with_reducible rfl) | rw [if_pos (by omega)] | rw [if_neg (by omega)]))
        try simp only [PT])
      refine tagN ?_
      refine region_one 4 (by kernel_rfl) rfl (fun K hK => ?_)
      go_simp
      refine (HP.out _).mono ?_
      rintro x w6 ⟨A6, rfl, hown6, hb6⟩
      have hb56 := chain hHeld hb6
      refine hK.out _ _ (fun w' => Below w6.heap.size w6 w') (Below.refl _ _) (fun w' h => chain hb56 h) (fun hHeld => ?_)
      clear hK K
      try simp only [PT]
      have k4 : ∀ w', Below w6.heap.size w6 w' → _ := fun w' h => conv_str (hown6.rd.below h)
      refine tag [5,6] ?_
      iterate 2 (
        refine sH (v := ?_) rfl (by kernel_rfl) (fun _ _ _ h => h) (Or.inl ⟨by kernel_rfl, ?_⟩) (by assumption) ?_
        rotate_left
        · (intro wS hwS; (try dsimp only at hwS); go_simp; try (first | (with_reducible rfl) | rw [if_pos (by omega)] | rw [if_neg (by omega)]))
        try simp only [PT])
      refine tagN ?_
      clear k4
      refine region_one 9 (by kernel_rfl) rfl (fun K hK => ?_)
      go_simp
      refine (HLK.out _).mono ?_
      rintro x w7 ⟨rfl, hb7⟩
      have hc7 := chain hHeld hb7
      refine hK.out _ _ (fun w' => Below w6.heap.size w6 w') (hc7) (fun _ h => h) (fun hHeld => ?_)
      clear hK K
      try simp only [PT]
      refine tag [10] ?_
      refine sH (v := ?_) rfl (by kernel_rfl) (fun _ _ _ h => h) (Or.inl ⟨by kernel_rfl, ?_⟩) (by assumption) ?_
      rotate_left
      · (intro wS hwS; (try dsimp only at hwS); go_simp; try (first | (with_reducible rfl) | rw [if_pos (by omega)] | rw [if_neg (by omega)]))
      try simp only [PT]
      refine tagN ?_
      refine region_one 13 (by kernel_rfl) rfl (fun K hK => ?_)
      go_simp
      refine (HLV.out _).mono ?_
      rintro x w8 ⟨rfl, hb8⟩
      have hc8 := chain hHeld hb8
      refine hK.out _ _ (fun w' => Below w6.heap.size w6 w') (hc8) (fun _ h => h) (fun hHeld => ?_)
      clear hK K
      try simp only [PT]
      refine tag [14,15] ?_
      iterate 2 (
        refine sH (v := ?_) rfl (by kernel_rfl) (fun _ _ _ h => h) (Or.inl ⟨by kernel_rfl, ?_⟩) (by assumption) ?_
        rotate_left
        · (intro wS hwS; (try dsimp only at hwS); go_simp; try (first | (with_reducible rfl) | rw [if_pos (by omega)] | rw [if_neg (by omega)]))
        try simp only [PT])
      refine tagN ?_
      refine wpAnyH_done (by kernel_rfl) ?_ _
      have hfin := chain (chain HB.out hb56) hHeld
      clear k0 k1 k2 hy hHeld hb56 hc7 hc8 hb6 hb7 hb8 hown6 a1 a2 a3 s1 s2 s3 HP HLK HLV
      go_wp2_with fail
      go_roundw
      case rel => exact ⟨k + 1, by go_num, by rw [HPS.out], by omega, hfin⟩
      case measure => simp [intOf]; omega
    · obtain rfl : k = l.length := by omega
      rw [preL_end]
      have HB := Lib.hid hb
      clear hb
      go_wp2_with fail
      go_ret
      exact ⟨rfl, HB.out⟩
end Go.Proofs.YtnkjekkdndjfaaaGreat
