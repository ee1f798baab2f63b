
/- The law RedoBack: the Go function returns true, whatever the bytes are. -/
import Derived.Test.YtcpkaolfafeojaaRdState
import Derived.Test.YtcpkaolfafeojaaPutState
import Derived.Test.YtcpkaolfafeojaaRedoReadWalk
import Derived.Test.YtcpkaolfafeojaaKvItems9
namespace Go.Proofs.Ytcpkaolfafeojaa
set_option linter.unusedVariables false
set_option linter.unusedSimpArgs false
open Go.RowKit
theorem rd_no {A : Option Addr} {n c : Nat} {b : List UInt8} (w : World) (hr : RdB w w.heap.size A n c b) (hn : n ≤ 1600000) (h : okS b = false) :
    Calls Try.prog 56 #[.slice A n c] w fun x w' => x = .returned (.tuple #[.pointer none, .int .i64 3]) ∧ Below w.heap.size w w' :=
  (rdstate_any A n c b w hr hn).mono fun _ _ ⟨h1, h2, _⟩ => ⟨h2 h, h1⟩
theorem rd_yes {A : Option Addr} {n c : Nat} {b : List UInt8} {rev : Int} {l : List It} {s : St} (w : World) (hr : RdB w w.heap.size A n c b) (hn : n ≤ 1600000) (h : okS b = true) (hb : rdS b = ⟨rev, l, s⟩) :
    Calls Try.prog 56 #[.slice A n c] w fun x w' => ∃ g m, x = .returned (.tuple #[.pointer (some ⟨g, 0, none⟩), .int .i64 0]) ∧ IsSt w' g m l.length rev l ∧ w.heap.size ≤ m ∧ m < g ∧ Below w.heap.size w w' :=
  (rdstate_any A n c b w hr hn).mono fun _ _ ⟨h1, _, h2⟩ => (by obtain ⟨g, m, e, h3, h4, h5⟩ := h2 h; rw [hb] at h3; exact ⟨g, m, e, h3, h4, h5, h1⟩)
theorem okS_right {b : List UInt8} {rev : Int} {l : List It} {s : St} (h : okS b = true) (hb : rdS b = ⟨rev, l, s⟩) : rightL rev l = true ∧ stL rev l = b ∧ 16 * l.length ≤ b.length := by
  have h1 := put_okS h
  have h2 := h
  unfold okS at h2
  rw [Bool.and_eq_true] at h2
  have h3 := rdS_len h2.1
  rw [hb] at h1 h2 h3
  exact ⟨h2.2, h1, h3⟩
theorem rightL_small {rev : Int} {l : List It} (h : rightL rev l = true) (hr : rev < 9223372036854775808) : ∀ x ∈ l, smallI x := by
  intro x hx
  obtain ⟨h0, h1⟩ := rightL_ok h
  obtain ⟨a, b, c, d⟩ := h1 x hx
  have ha := (keyB_iff x.k).1 a
  exact ⟨ha.2, b, by omega, by omega⟩
theorem sgn_hi (n : Nat) (h : n < 18446744073709551616) : sgn n < 9223372036854775808 := by
  unfold sgn
  split <;> omega
theorem rdS_hi (b : List UInt8) : (rdS b).rev < 9223372036854775808 := sgn_hi _ (St.u_lt _ 8)
theorem Mod.cell {w w' : World} {M : Nat → Obj → Prop} {p : Addr} {v : Value} (hm : Mod M w w') (hM : ∀ o, ¬ M p.block o) (h : w.cell? p = some v) : w'.cell? p = some v := by
  have hlt := World.block_lt_of_cell? w _ h
  have hb := hm.block p.block _ (Array.getElem?_eq_getElem hlt) (hM _)
  unfold World.cell? at h ⊢
  rw [hb]
  rw [Array.getElem?_eq_getElem hlt] at h
  exact h
theorem OwnI.ge {w : World} {B n c g off : Nat} {l : List It} (h : OwnI w B (some ⟨g, off, none⟩) n c l) : B ≤ g := own_ge (show World.ownsRow _ _ _ _ _ _ _ from h) rfl
set_option maxRecDepth 100000 in
set_option maxHeartbeats 4000000 in
theorem redoBack_walk {A : Option Addr} {n c : Nat} {L : List UInt8} (w : World) (hr : RdB w w.heap.size A n c L) :
    Calls Try.prog 15 #[.slice A n c] w fun e w' => e = .returned (.bool true) ∧ Below w.heap.size w w' := by
  have hr2 := hr.take10 300
  have hl2 : (L.take 300).length ≤ 300 := by simp; omega
  have hfew := few10 A n c _ L w hr
  generalize L.take 300 = b at *
  cases hok : okS b with
  | false =>
    have HRD := rd_no w hr2 (by omega) hok
    go_enter Try.func15, Try.ntmps15
    go_wp2_with (first | (((with_reducible refine (hfew).mono ?_); rintro z v ⟨rfl, rfl⟩)) | (((with_reducible refine (HRD).mono ?_); rintro z w2 ⟨rfl, hb2⟩)) | (((with_reducible refine ((awake10 w2)).mono ?_); rintro z w3 ⟨rfl, hb3⟩)))
    go_ret
    exact ⟨rfl, chain hb2 hb3⟩
  | true =>
    have hhi := rdS_hi b
    obtain ⟨R, hR⟩ : ∃ R, rdS b = R := ⟨_, rfl⟩
    rw [hR] at hhi
    obtain ⟨rev, l, s⟩ := R
    simp only at hhi
    obtain ⟨hright, hput, hlen⟩ := okS_right hok hR
    have HRD := rd_yes w hr2 (by omega) hok hR
    have hsm := rightL_small hright hhi
    have hlo := (rightL_ok hright).1
    clear hok hR
    go_enter Try.func15, Try.ntmps15
    go_upto_region 3 with (first | (((with_reducible refine (hfew).mono ?_); rintro z v ⟨rfl, rfl⟩)) | (((with_reducible refine (HRD).mono ?_); rintro z w2 ⟨g, m, rfl, hst, hwm, hmg, hb2⟩)))
    clear hfew HRD
    have HREV := rev_any w2 hst
    go_upto_region 6 with (((with_reducible refine (HREV).mono ?_); rintro z v ⟨rfl, rfl⟩))
    obtain ⟨h5, hb3⟩ := one_at w2 81 [.int .i64 rev, .slice none 0 0]
    have hs3 := h5.lt
    replace hst := hst.step hb3
    have hb := chain hb2 hb3
    have hs2 := hb2.size
    clear HREV hb2 hb3
    generalize World.alloc w2 _ = w3 at *
    obtain ⟨g5, hg5⟩ : ∃ g5, w2.heap.size = g5 := ⟨_, rfl⟩
    rw [hg5] at h5 hs2 hs3 ⊢
    clear hg5
    have HALL := all_any w3 hst (by omega) fun x h => by have := (hsm x h).1; omega
    obtain ⟨⟨s0, s1⟩, sf⟩ := at2 h5
    go_upto_region 7 with (((with_reducible refine (HALL).mono ?_); rintro z w4 ⟨A4, n4, c4, rfl, hown4, hb4⟩))
    have hn4 := hown4.len
    subst hn4
    replace h5 := h5.step hb4
    replace hst := hst.step hb4
    replace hb := chain hb hb4
    have HR := Lib.hid (show RdI w4 w4.heap.size A4 l.length c4 l from hown4.rd)
    have hge : ∀ gs off, A4 = some ⟨gs, off, none⟩ → w3.heap.size ≤ gs := fun gs off e => by subst e; exact hown4.ge
    have HGE := Lib.hid hge
    have H5 := Lib.hid h5
    have HB := Lib.hid hb
    have HS := Lib.hid hsm
    have hz4 : g5 < w4.heap.size := by have := hb4.size; omega
    clear HALL s0 s1 sf hown4 hb4 hge h5 hb hst hsm
    go_wp2_with fail
    go_loopw [32] (fun i wr => ∃ (k n5 c5 : Nat) (A5 : Option Addr), i = .int .i64 (k : Int) ∧ k ≤ l.length ∧ At wr g5 81 [.int .i64 rev, .slice A5 n5 c5] ∧ OwnRI wr w4.heap.size A5 n5 c5 (l.take k) ∧ Mod (fun i _ => i = g5) w4 wr) (fun i _ => l.length - (intOf i).toNat)
    case atStart => exact ⟨0, 0, 0, none, rfl, Nat.zero_le _, H5.out, OwnRI.nil, Mod.refl _ _⟩
    case round =>
      clear H5
      obtain ⟨k, n5, c5, A5, rfl, hk, h5, hown, hm⟩ := hrel
      have hsz := hm.size
      have hn5 : n5 = k := by rw [hown.len, List.length_take]; omega
      subst hn5
      by_cases hlt : n5 < l.length
      · obtain ⟨gs, off, e, hg, he⟩ := HR.out.elem It.row_length (by omega) (k := n5) hlt
        subst e
        have hgs := HGE.out gs off rfl
        have hgn : ¬ gs = g5 := by omega
        have e0 := hm.cell (fun _ => hgn) (he 0 _ rfl)
        have e1 := hm.cell (fun _ => hgn) (he 1 _ rfl)
        have e2 := hm.cell (fun _ => hgn) (he 2 _ rfl)
        rw [Nat.add_zero] at e0
        have hgw : gs < wr.heap.size := by omega
        have HF := Lib.hid (List.take_succ_eq_append_getElem hlt)
        clear he
        generalize l[n5] = y at *
        obtain ⟨yk, yv, yr⟩ := y
        simp only at e0 e1 e2
        have HM := Lib.hid hm
        have HW := Lib.hid hown
        have H5 := Lib.hid h5
        clear hm hown h5
        go_upto_region 9 with fail
        obtain ⟨hy, hb2⟩ := one_at wr 97 [.string yk, .string yv, .int .i64 yr]
        have HM := Lib.hid (HM.out.below hb2)
        have HW := Lib.hid (HW.out.step hb2)
        have H5 := Lib.hid (H5.out.step hb2)
        have hz2 := Nat.le_trans hsz hb2.size
        clear hb2 e0 e1 e2
        generalize World.alloc _ _ = w5 at *
        obtain ⟨gy, hgy⟩ : ∃ gy, wr.heap.size = gy := ⟨_, rfl⟩
        rw [hgy] at hy hsz hgw ⊢
        clear hgy
        obtain ⟨⟨y0, y1, y2⟩, yf⟩ := at3 hy
        obtain ⟨⟨s0, s1⟩, sf⟩ := at2 H5.out
        have hbn := (one_at w5 108 [.string yk, .string yv, .int .i64 yr]).2
        have HN := Lib.hid (Rd.lit (w := w5) (t := 108) (n := 1) (cs := [.string yk, .string yv, .int .i64 yr]) rfl (by simp [maxLen]) (by omega : 0 < 3))
        have HO := Lib.hid (HW.out.step hbn)
        have HMn := Lib.hid (HM.out.below hbn)
        have H5n := Lib.hid (H5.out.step hbn)
        have hz3 := Nat.le_trans hz2 hbn.size
        clear hbn
        go_wp2_with (at_builtin; refine app_ri rfl (.tmp 37) (.tmp 45) rfl rfl HO.out [⟨yk, yv, yr⟩] rfl HN.out hz3 (by omega) ?_; intro A6 c6 w6 hW6 hG6 hB6; (have h56 := H5n.out.under hB6 hz4); (obtain ⟨⟨s0', s1'⟩, sf0', sf1'⟩ := at2 h56))
        have hS := grown_set w6 g5 1 (.slice A6 (n5 + 1) c6)
        have h57 := h56.set 1 (.slice A6 (n5 + 1) c6)
        dsimp only [List.set] at h57
        have hw7 : OwnRI (w6.setCell ⟨g5, 1, none⟩ (.slice A6 (n5 + 1) c6)) w4.heap.size A6 _ c6 _ := own_mod (show World.ownsRow _ _ _ _ _ _ _ from hW6) (grown_mod hS) (by intro i o _ hi _ e; injection e with e; omega)
        have hm7 := (HMn.out.step (Mod.of_below hB6 hz3) (fun i o hi _ e => by omega)).grown hS (fun i o _ _ e => by injection e with e; exact e.symm)
        rw [← HF.out] at hw7
        clear y0 y1 y2 yf s0 s1 sf s0' s1' sf0' sf1' hS h56 hW6 hG6 hB6 HN HO HMn H5n hy
        generalize World.setCell _ _ _ = w7 at *
        go_roundw
        case rel => exact ⟨n5 + 1, n5 + 1, c6, A6, by go_num, by omega, h57, hw7, hm7⟩
        case measure => simp [intOf]; omega
      · obtain rfl : n5 = l.length := by omega
        rw [List.take_length] at hown
        have hb := chain_mod HB.out hm (show w.heap.size ≤ g5 by omega)
        have hsm := HS.out
        clear HB HR HGE hm
        go_upto_region 11 with fail
        refine region_any (by kernel_rfl) ?_
        change wpAny _ _ _ _ _ _ _ (World.drew _)
        replace h5 := h5.drew
        replace hown := (show wr.drew.ownsRow _ _ _ _ _ _ from hown)
        replace hb := hb.drew
        generalize World.drew _ = w8 at *
        have HRR := rkright_any A5 l.length c5 l rev w8 (OwnRI.rd hown)
        rw [hright] at HRR
        obtain ⟨⟨s0, s1⟩, sf⟩ := at2 h5
        have l5 := h5.lt
        refine stage 100000 ?_
        refine stage_read (i := 0) (v := ?_) rfl (by kernel_rfl) (by kernel_rfl) (by kernel_rfl) (by kernel_rfl) (by kernel_rfl) (by kernel_rfl) (fun _ _ _ h => h) (Or.inl ⟨by kernel_rfl, ?_⟩) ?_
        rotate_left
        · (intro wS hwS; obtain ⟨hcS, hfS, hhS⟩ := bcell hwS; go_simp; try (first | (with_reducible rfl) | rw [if_pos (by omega)] | rw [if_neg (by omega)]))
        try simp only [Act.put, List.getElem_toArray, List.getElem_cons_succ, List.getElem_cons_zero, List.setIfInBounds_toArray, List.set_cons_zero, List.set_cons_succ]
        refine stage_one 1 (by kernel_rfl) rfl (by kernel_rfl) (fun K hK => ?_)
        go_simp
        refine HRR.mono ?_
        rintro z w9 ⟨rfl, hb9⟩
        refine hK.out _ _ (hb9) ?_
        clear hK K
        try simp only [Act.put, List.getElem_toArray, List.getElem_cons_succ, List.getElem_cons_zero, List.setIfInBounds_toArray, List.set_cons_zero, List.set_cons_succ]
        replace h5 := h5.step hb9
        replace hown := OwnRI.step hown hb9
        replace hb := chain hb hb9
        clear s0 s1 sf l5 HRR hb9
        have HPS := rputstate_any A5 l.length c5 rev l w9 (OwnRI.rd hown) (by omega) hsm hlo hhi
        rw [hput] at HPS
        obtain ⟨⟨s0, s1⟩, sf⟩ := at2 h5
        have l5 := h5.lt
        have hcv : ∀ w', Below w9.heap.size w9 w' → _ := fun w' h => conv_str (hr2.below (chain hb h))
        refine stage_read (i := 2) (v := ?_) rfl (by kernel_rfl) (by kernel_rfl) (by kernel_rfl) (by kernel_rfl) (by kernel_rfl) (by kernel_rfl) (fun _ _ _ h => h) (Or.inl ⟨by kernel_rfl, ?_⟩) ?_
        rotate_left
        · (intro wS hwS; obtain ⟨hcS, hfS, hhS⟩ := bcell hwS; go_simp; try (first | (with_reducible rfl) | rw [if_pos (by omega)] | rw [if_neg (by omega)]))
        try simp only [Act.put, List.getElem_toArray, List.getElem_cons_succ, List.getElem_cons_zero, List.setIfInBounds_toArray, List.set_cons_zero, List.set_cons_succ]
        refine stage_read (i := 3) (v := ?_) rfl (by kernel_rfl) (by kernel_rfl) (by kernel_rfl) (by kernel_rfl) (by kernel_rfl) (by kernel_rfl) (fun _ _ _ h => h) (Or.inl ⟨by kernel_rfl, ?_⟩) ?_
        rotate_left
        · (intro wS hwS; obtain ⟨hcS, hfS, hhS⟩ := bcell hwS; go_simp; try (first | (with_reducible rfl) | rw [if_pos (by omega)] | rw [if_neg (by omega)]))
        try simp only [Act.put, List.getElem_toArray, List.getElem_cons_succ, List.getElem_cons_zero, List.setIfInBounds_toArray, List.set_cons_zero, List.set_cons_succ]
        refine stage_read (i := 5) (v := ?_) rfl (by kernel_rfl) (by kernel_rfl) (by kernel_rfl) (by kernel_rfl) (by kernel_rfl) (by kernel_rfl) (fun _ _ _ h => h) (Or.inl ⟨by kernel_rfl, ?_⟩) ?_
        rotate_left
        · (intro wS hwS; obtain ⟨hcS, hfS, hhS⟩ := bcell hwS; go_simp; try (first | (with_reducible rfl) | rw [if_pos (by omega)] | rw [if_neg (by omega)]))
        try simp only [Act.put, List.getElem_toArray, List.getElem_cons_succ, List.getElem_cons_zero, List.setIfInBounds_toArray, List.set_cons_zero, List.set_cons_succ]
        refine stage_read (i := 6) (v := ?_) rfl (by kernel_rfl) (by kernel_rfl) (by kernel_rfl) (by kernel_rfl) (by kernel_rfl) (by kernel_rfl) (fun _ _ _ h => h) (Or.inl ⟨by kernel_rfl, ?_⟩) ?_
        rotate_left
        · (intro wS hwS; obtain ⟨hcS, hfS, hhS⟩ := bcell hwS; go_simp; try (first | (with_reducible rfl) | rw [if_pos (by omega)] | rw [if_neg (by omega)]))
        try simp only [Act.put, List.getElem_toArray, List.getElem_cons_succ, List.getElem_cons_zero, List.setIfInBounds_toArray, List.set_cons_zero, List.set_cons_succ]
        refine stage_one 4 (by kernel_rfl) rfl (by kernel_rfl) (fun K hK => ?_)
        go_simp
        refine HPS.mono ?_
        rintro z wa ⟨rfl, hba⟩
        refine hK.out _ _ (hba) ?_
        clear hK K
        try simp only [Act.put, List.getElem_toArray, List.getElem_cons_succ, List.getElem_cons_zero, List.setIfInBounds_toArray, List.set_cons_zero, List.set_cons_succ]
        replace h5 := h5.step hba
        replace hb := chain hb hba
        clear s0 s1 sf l5 HPS hba hcv
        obtain ⟨⟨s0, s1⟩, sf⟩ := at2 h5
        have l5 := h5.lt
        refine stage_read (i := 7) (v := ?_) rfl (by kernel_rfl) (by kernel_rfl) (by kernel_rfl) (by kernel_rfl) (by kernel_rfl) (by kernel_rfl) (fun _ _ _ h => h) (Or.inl ⟨by kernel_rfl, ?_⟩) ?_
        rotate_left
        · (intro wS hwS; obtain ⟨hcS, hfS, hhS⟩ := bcell hwS; go_simp; try (first | (with_reducible rfl) | rw [if_pos (by omega)] | rw [if_neg (by omega)]))
        try simp only [Act.put, List.getElem_toArray, List.getElem_cons_succ, List.getElem_cons_zero, List.setIfInBounds_toArray, List.set_cons_zero, List.set_cons_succ]
        refine stage_read (i := 8) (v := ?_) rfl (by kernel_rfl) (by kernel_rfl) (by kernel_rfl) (by kernel_rfl) (by kernel_rfl) (by kernel_rfl) (fun _ _ _ h => h) (Or.inl ⟨by kernel_rfl, ?_⟩) ?_
        rotate_left
        · (intro wS hwS; obtain ⟨hcS, hfS, hhS⟩ := bcell hwS; go_simp; try (first | (with_reducible rfl) | rw [if_pos (by omega)] | rw [if_neg (by omega)]))
        try simp only [Act.put, List.getElem_toArray, List.getElem_cons_succ, List.getElem_cons_zero, List.setIfInBounds_toArray, List.set_cons_zero, List.set_cons_succ]
        refine stage_read (i := 9) (v := ?_) rfl (by kernel_rfl) (by kernel_rfl) (by kernel_rfl) (by kernel_rfl) (by kernel_rfl) (by kernel_rfl) (fun _ _ _ h => h) (Or.inl ⟨by kernel_rfl, ?_⟩) ?_
        rotate_left
        · (intro wS hwS; obtain ⟨hcS, hfS, hhS⟩ := bcell hwS; go_simp; try (first | (with_reducible rfl) | rw [if_pos (by omega)] | rw [if_neg (by omega)]))
        try simp only [Act.put, List.getElem_toArray, List.getElem_cons_succ, List.getElem_cons_zero, List.setIfInBounds_toArray, List.set_cons_zero, List.set_cons_succ]
        refine stage_one 10 (by kernel_rfl) rfl (by kernel_rfl) (fun K hK => ?_)
        go_simp
        refine (awake10 _).mono ?_
        rintro z wb ⟨rfl, hbb⟩
        refine hK.out _ _ (hbb) ?_
        clear hK K
        try simp only [Act.put, List.getElem_toArray, List.getElem_cons_succ, List.getElem_cons_zero, List.setIfInBounds_toArray, List.set_cons_zero, List.set_cons_succ]
        replace hb := chain hb hbb
        clear s0 s1 sf l5 h5 hown hbb
        refine stage_read (i := 11) (v := ?_) rfl (by kernel_rfl) (by kernel_rfl) (by kernel_rfl) (by kernel_rfl) (by kernel_rfl) (by kernel_rfl) (fun _ _ _ h => h) (Or.inl ⟨by kernel_rfl, ?_⟩) ?_
        rotate_left
        · (intro wS hwS; obtain ⟨hcS, hfS, hhS⟩ := bcell hwS; go_simp; try (first | (with_reducible rfl) | rw [if_pos (by omega)] | rw [if_neg (by omega)]))
        try simp only [Act.put, List.getElem_toArray, List.getElem_cons_succ, List.getElem_cons_zero, List.setIfInBounds_toArray, List.set_cons_zero, List.set_cons_succ]
        refine stage_read (i := 12) (v := ?_) rfl (by kernel_rfl) (by kernel_rfl) (by kernel_rfl) (by kernel_rfl) (by kernel_rfl) (by kernel_rfl) (fun _ _ _ h => h) (Or.inl ⟨by kernel_rfl, ?_⟩) ?_
        rotate_left
        · (intro wS hwS; obtain ⟨hcS, hfS, hhS⟩ := bcell hwS; go_simp; try (first | (with_reducible rfl) | rw [if_pos (by omega)] | rw [if_neg (by omega)]))
        try simp only [Act.put, List.getElem_toArray, List.getElem_cons_succ, List.getElem_cons_zero, List.setIfInBounds_toArray, List.set_cons_zero, List.set_cons_succ]
        first | refine wpAnyT_done (by kernel_rfl) ?_ _ | refine wpAny_done (by kernel_rfl) ?_ _
        have HB := Lib.hid hb
        clear hb
        go_wp2_with fail
        go_ret
        exact ⟨rfl, HB.out⟩
end Go.Proofs.Ytcpkaolfafeojaa
