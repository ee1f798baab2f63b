
/- The law KvApply: the Go function returns true, whatever revision, items and effect are given. -/
import Derived.Test.YtcpkaolfafeojaaKvAwake
import Derived.Test.YtcpkaolfafeojaaKvOf
import Derived.Test.YtcpkaolfafeojaaKvRMay
import Derived.Test.YtcpkaolfafeojaaKvRApply
import Derived.Test.YtcpkaolfafeojaaKvItems9
import Derived.Test.YtcpkaolfafeojaaKvSame9
namespace Go.Proofs.Ytcpkaolfafeojaa
set_option linter.unusedVariables false
set_option linter.unusedSimpArgs false
open Go.RowKit
theorem of_no {A : Option Addr} {n c : Nat} {l : List It} {rev : Int} (w : World) (hr : RdI w w.heap.size A n c l) (hn : n ≤ 100000) (h : rightL rev l = false) :
    Calls Try.prog 52 #[.int .i64 rev, .slice A n c] w fun x w' => x = .returned (.tuple #[.pointer none, .int .i64 1]) ∧ Below w.heap.size w w' :=
  (of_any A n c l rev w hr hn).mono fun _ _ ⟨h1, h2, _⟩ => ⟨h2 h, h1⟩
theorem of_yes {A : Option Addr} {n c : Nat} {l : List It} {rev : Int} (w : World) (hr : RdI w w.heap.size A n c l) (hn : n ≤ 100000) (h : rightL rev l = true) :
    Calls Try.prog 52 #[.int .i64 rev, .slice A n c] w fun x w' => ∃ g b, x = .returned (.tuple #[.pointer (some ⟨g, 0, none⟩), .int .i64 0]) ∧ IsSt w' g b l.length rev l ∧ w.heap.size ≤ b ∧ b < g ∧ Below w.heap.size w w' :=
  (of_any A n c l rev w hr hn).mono fun _ _ ⟨h1, _, h2⟩ => (by obtain ⟨g, b, e, h3, h4, h5⟩ := h2 h; exact ⟨g, b, e, h3, h4, h5, h1⟩)
theorem rightL_keys {rev : Int} {l : List It} (h : rightL rev l = true) : ∀ x ∈ l, keyB x.k = true := by
  intro x hx
  unfold rightL at h
  simp only [Bool.and_eq_true] at h
  have := rightF_ok h.1 x hx
  unfold itOk at this
  simp only [Bool.and_eq_true] at this
  exact this.1.1.1
theorem rightL_lo {rev : Int} {l : List It} (h : rightL rev l = true) : 0 ≤ rev := by
  unfold rightL at h
  simp only [Bool.and_eq_true, decide_eq_true_eq] at h
  exact h.2
theorem rightL_asc {rev : Int} {l : List It} (h : rightL rev l = true) : Asc l := by
  unfold rightL at h
  simp only [Bool.and_eq_true] at h
  exact (rightF_asc h.1).1
theorem keyB_le {k : ByteArray} (h : keyB k = true) : k.size ≤ 1000 := by
  unfold keyB at h
  simp only [Bool.and_eq_true, decide_eq_true_eq] at h
  omega
theorem apOk_key {rev : Int} {l : List It} {e : Eff} (h : apOk rev l e = true) : keyB e.k = true := by
  unfold apOk at h
  simp only [Bool.and_eq_true] at h
  exact h.1.1.1.1
theorem applyL_short {e : It} : ∀ {l : List It} {d : Bool}, (applyL e d l).length ≤ 1 + 2 * l.length
  | [], d => by unfold applyL; cases d <;> simp
  | c :: l, d => by
    unfold applyL
    have := applyL_short (e := e) (l := l) (d := d || kless e.k c.k)
    rw [List.length_append, List.length_append, List.length_cons]
    have h1 : (if (!d && kless e.k c.k) = true then [e] else []).length ≤ 1 := by split <;> simp
    have h2 : (if c.k = e.k then [] else [c]).length ≤ 1 := by split <;> simp
    omega
theorem rdI_take {w : World} {B n c : Nat} {A : Option Addr} {l : List It} (hr : RdI w B A n c l) {k : Nat} (hk : k ≤ n) : RdI w B A k c (l.take k) := by
  have hl := hr.len
  have h := Rd.take hr (k := k) (c' := c) hk (Nat.le_trans hk hr.le) (Nat.le_refl _)
  have e : (l.take k).flatMap It.row = (l.flatMap It.row).take (k * 3) := by
    conv => rhs; rw [← List.take_append_drop k l, List.flatMap_append]
    rw [List.take_left' (by rw [its_len, List.length_take]; rw [Nat.min_eq_left (by omega)])]
  show Rd w B 3 A k c _
  rw [e]
  exact h
set_option maxRecDepth 100000 in
set_option maxHeartbeats 4000000 in
theorem kvApply_walk {A : Option Addr} {n c : Nat} {rev : Int} {L : List It} {e : Eff} (w : World) (hrv : -9223372036854775808 ≤ rev ∧ rev ≤ 9223372036854775807) (hr0 : RdI w w.heap.size A n c L) (hfe : e.fits) :
    Calls Try.prog 14 #[.int .i64 rev, .slice A n c, e.val] w fun r w' => r = .returned (.bool true) ∧ Below w.heap.size w w' := by
  have hl := RdI.len hr0
  have hmax := hr0.max
  have hle := hr0.le
  unfold maxLen at hmax
  have hhi : rev ≤ 9223372036854775807 := by omega
  have hfk : e.k.size ≤ maxLen := hfe.1
  obtain ⟨ek, ev, er, eg⟩ := e
  simp only at hfk
  show Calls Try.prog 14 #[.int .i64 rev, .slice A n c, .agg #[.string ek, .string ev, .int .i64 er, .bool eg]] w _
  clear hfe
  by_cases h8 : 8 < n
  · have hr := rdI_take hr0 (k := 8) (by omega)
    obtain ⟨gs, off, e, _, _⟩ := hr0.elem It.row_length (by omega) (k := 0) (by omega)
    subst e
    have hl8 : (L.take 8).length = 8 := by rw [List.length_take]; omega
    generalize L.take 8 = l at *
    clear hr0
    go_enter Try.func14, Try.ntmps14
    go_upto_region 4 with fail
    obtain ⟨h5, h7, hb⟩ := two_at w 54 [.string ek, .string ev, .int .i64 er, .bool eg] 81 [.int .i64 rev, .slice (some ⟨gs, off, none⟩) 8 c]
    have hg5 : w.heap.size < w.heap.size + 1 := by omega
    have hs2 : w.heap.size + 1 < (World.alloc (World.alloc w (.cells #[.string ek, .string ev, .int .i64 er, .bool eg] 54)) (.cells #[.int .i64 rev, .slice (some ⟨gs, off, none⟩) 8 c] 81)).heap.size := by simp
    generalize World.alloc (World.alloc w _) _ = w2 at *
    have HR := fun v (h : Below w.heap.size w v) => Rd.step hr h
    clear hr
    have HI := items_any (some ⟨gs, off, none⟩) 8 c l w2 (HR w2 hb) (by omega)
    cases hq : rightL rev l with
    | false =>
      have HOF := fun A3 n3 c3 v (h : RdI v v.heap.size A3 n3 c3 l) (hn : n3 ≤ 100000) => of_no v h hn hq
      have HRT := fun v (h : RdI v v.heap.size (some ⟨gs, off, none⟩) 8 c l) => rkright_any (some ⟨gs, off, none⟩) 8 c l rev v h
      rw [hq] at HRT
      go_upto_region 5 with (first | (((with_reducible refine (HI).mono ?_); rintro z w3 ⟨A3, n3, c3, rfl, hown3, hb3⟩); (have hn3 : n3 ≤ 100000 := by have := hown3.len; omega)) | (((with_reducible refine ((HOF A3 n3 c3 w3 hown3.rd hn3)).mono ?_); rintro z w4 ⟨rfl, hb4⟩)))
      replace h7 := (h7.step hb3).step hb4
      replace hb := chain (chain hb hb3) hb4
      clear HI HOF hown3
      obtain ⟨⟨s0, s1⟩, sf⟩ := at2 h7
      have HRT := HRT w4 (HR w4 hb)
      go_wp2_with (first | (((with_reducible refine (HRT).mono ?_); rintro z w5 ⟨rfl, hb5⟩)) | (((with_reducible refine ((awake9_any w5)).mono ?_); rintro z w6 ⟨rfl, hb6⟩)))
      go_ret
      exact ⟨rfl, chain (chain hb hb5) hb6⟩
    | true =>
      have hlo := rightL_lo hq
      have hks := rightL_keys hq
      have hk1 : ∀ x ∈ l, x.k.size ≤ 1000 := fun x hx => keyB_le (hks x hx)
      have HOF := fun A3 n3 c3 v (h : RdI v v.heap.size A3 n3 c3 l) (hn : n3 ≤ 100000) => of_yes v h hn hq
      have HRT := fun v (h : RdI v v.heap.size (some ⟨gs, off, none⟩) 8 c l) => rkright_any (some ⟨gs, off, none⟩) 8 c l rev v h
      rw [hq] at HRT
      go_upto_region 5 with (first | (((with_reducible refine (HI).mono ?_); rintro z w3 ⟨A3, n3, c3, rfl, hown3, hb3⟩); (have hn3 : n3 ≤ 100000 := by have := hown3.len; omega)) | (((with_reducible refine ((HOF A3 n3 c3 w3 hown3.rd hn3)).mono ?_); rintro z w4 ⟨g, b, rfl, hst, hbg, hgb, hb4⟩)))
      have hs3 := hb3.size
      have hlt4 := hst.lt
      replace h5 := (h5.step hb3).step hb4
      replace h7 := (h7.step hb3).step hb4
      replace hb := chain (chain hb hb3) hb4
      have hs4 := hb4.size
      clear HI HOF hown3 hb3 hb4
      have hlw : w.heap.size ≤ b := by omega
      obtain ⟨⟨s0, s1⟩, sf⟩ := at2 h7
      have HRT := HRT w4 (HR w4 hb)
      go_upto_region 7 with (((with_reducible refine (HRT).mono ?_); rintro z w5 ⟨rfl, hb5⟩))
      replace hst := hst.step hb5
      replace h5 := h5.step hb5
      replace h7 := h7.step hb5
      replace hb := chain hb hb5
      clear HRT s0 s1 sf hb5
      have HREV := rev_any w5 hst
      have HALL := all_any w5 hst (by omega) hk1
      have hrr : (rev == rev) = true := by simp
      have hrn : (rev != rev) = false := by simp
      go_upto_region 9 with (first | (((with_reducible refine (HREV).mono ?_); rintro z v ⟨rfl, rfl⟩)) | (((with_reducible refine (HALL).mono ?_); rintro z w6 ⟨A6, n6, c6, rfl, hown6, hb6⟩)) | (((with_reducible refine ((sitems_any A6 (some ⟨gs, off, none⟩) n6 c6 8 c l w6 hown6.rd (HR w6 (chain hb hb6)))).mono ?_); rintro z w7 ⟨rfl, hb7⟩)))
      replace hst := (hst.step hb6).step hb7
      replace h5 := (h5.step hb6).step hb7
      replace h7 := (h7.step hb6).step hb7
      replace hb := chain (chain hb hb6) hb7
      clear HREV HALL hown6 hb6 hb7
      obtain ⟨⟨x0, x1, x2, x3⟩, xf⟩ := at4 h5
      have HAP := apply_any ek ev er eg w7 hst (by omega) hfk
      have HMAY := fun v (h : RdI v v.heap.size (some ⟨gs, off, none⟩) 8 c l) => rmay_any (some ⟨gs, off, none⟩) 8 c l rev ek ev er eg v h hlo hhi
      unfold ApR at HAP
      cases hap : apOk rev l ⟨ek, ev, er, eg⟩ with
      | false =>
        rw [hap] at HAP HMAY
        simp only [Bool.false_eq_true, if_false] at HAP
        go_upto_region 10 with (((with_reducible refine (HAP).mono ?_); rintro z w8 ⟨rfl, hst8, hm8⟩))
        have hst := hst8
        replace h5 := hm8.at h5 (by rintro (e | e) <;> omega)
        replace h7 := hm8.at h7 (by rintro (e | e) <;> omega)
        replace hb := hb.trans (hm8.toBelow (fun i o hi e => by rcases e with e | e <;> omega) hb.size)
        clear HAP hst8 hm8 x0 x1 x2 x3 xf
        obtain ⟨⟨x0, x1, x2, x3⟩, xf⟩ := at4 h5
        obtain ⟨⟨s0, s1⟩, sf⟩ := at2 h7
        have HMAY := HMAY w8 (HR w8 hb)
        go_upto_region 11 with (((with_reducible refine (HMAY).mono ?_); rintro z w9 ⟨rfl, hb9⟩))
        replace hst := hst.step hb9
        replace hb := chain hb hb9
        clear HMAY hb9 x0 x1 x2 x3 xf s0 s1 sf
        have HREV := rev_any w9 hst
        have HALL := all_any w9 hst (by omega) hk1
        go_wp2_with (first | (((with_reducible refine (HREV).mono ?_); rintro z v ⟨rfl, rfl⟩)) | (((with_reducible refine (HALL).mono ?_); rintro z wa ⟨Aa, na, ca, rfl, howna, hba⟩)) | (((with_reducible refine ((sitems_any Aa (some ⟨gs, off, none⟩) na ca 8 c l wa howna.rd (HR wa (chain hb hba)))).mono ?_); rintro z wb ⟨rfl, hbb⟩)) | (((with_reducible refine ((awake9_any wb)).mono ?_); rintro z wc ⟨rfl, hbc⟩)))
        go_ret
        exact ⟨rfl, chain (chain (chain hb hba) hbb) hbc⟩
      | true =>
        rw [hap] at HAP HMAY
        simp only [if_true] at HAP
        have hkm : ∀ x ∈ applyL ⟨ek, ev, er⟩ eg l, x.k.size ≤ 1000 := fun x hx => by
          rcases applyL_mem (rightL_asc hq) hx with rfl | h
          · exact keyB_le (apOk_key hap)
          · exact hk1 x h
        have hsh : (applyL ⟨ek, ev, er⟩ eg l).length ≤ 100 := Nat.le_trans applyL_short (by omega)
        go_upto_region 10 with (((with_reducible refine (HAP).mono ?_); rintro z w8 ⟨rfl, hst8, hm8⟩))
        have hst := hst8
        replace h5 := hm8.at h5 (by rintro (e | e) <;> omega)
        replace h7 := hm8.at h7 (by rintro (e | e) <;> omega)
        replace hb := hb.trans (hm8.toBelow (fun i o hi e => by rcases e with e | e <;> omega) hb.size)
        clear HAP hst8 hm8 x0 x1 x2 x3 xf
        obtain ⟨⟨x0, x1, x2, x3⟩, xf⟩ := at4 h5
        obtain ⟨⟨s0, s1⟩, sf⟩ := at2 h7
        have HMAY := HMAY w8 (HR w8 hb)
        go_upto_region 12 with (((with_reducible refine (HMAY).mono ?_); rintro z w9 ⟨rfl, hb9⟩))
        replace hst := hst.step hb9
        replace h5 := h5.step hb9
        replace h7 := h7.step hb9
        replace hb := chain hb hb9
        clear HMAY hb9 x0 x1 x2 x3 xf s0 s1 sf
        obtain ⟨⟨x0, x1, x2, x3⟩, xf⟩ := at4 h5
        obtain ⟨⟨s0, s1⟩, sf⟩ := at2 h7
        have HRA := rapply_any (some ⟨gs, off, none⟩) 8 c l rev ek ev er eg w9 (HR w9 hb) (by omega)
        unfold Eff.it at hst
        simp only at hst
        generalize applyL ⟨ek, ev, er⟩ eg l = l' at *
        go_upto_region 13 with (((with_reducible refine (HRA).mono ?_); rintro z wa ⟨Aa, na, ca, rfl, howna, hba⟩))
        obtain ⟨hN, hbN⟩ := one_at wa 81 [.int .i64 er, .slice Aa na ca]
        replace hst := (hst.step hba).step hbN
        replace howna := OwnRI.step howna hbN
        replace hb := chain (chain hb hba) hbN
        clear HRA hba hbN x0 x1 x2 x3 xf s0 s1 sf h5 h7
        generalize World.alloc wa _ = wd at *
        obtain ⟨gN, hgN⟩ : ∃ gN, wa.heap.size = gN := ⟨_, rfl⟩
        rw [hgN] at hN ⊢
        clear hgN
        refine region_any (by kernel_rfl) ?_
        change wpAny _ _ _ _ _ _ _ (World.drew _)
        replace hst := hst.drew
        replace hN := hN.drew
        replace howna := (show wd.drew.ownsRow _ _ _ _ _ _ from howna)
        have HB := Lib.hid hb.drew
        clear hb
        generalize World.drew _ = we at *
        obtain ⟨⟨s0, s1⟩, sf⟩ := at2 hN
        have lN := hN.lt
        have hee : (er == er) = true := by simp
        refine stage 100000 ?_
        refine stage_read (i := 0) (v := ?_) rfl (by kernel_rfl) (by kernel_rfl) (by kernel_rfl) (by kernel_rfl) (by kernel_rfl) (by kernel_rfl) (fun _ _ _ h => h) (Or.inl ⟨by kernel_rfl, ?_⟩) ?_
        rotate_left
        · (intro wS hwS; obtain ⟨hcS, hfS, hhS⟩ := bcell hwS; go_simp; try (first | (with_reducible rfl) | rw [if_pos (by omega)] | rw [if_neg (by omega)]))
        try simp only [Act.put, List.getElem_toArray, List.getElem_cons_succ, List.getElem_cons_zero, List.setIfInBounds_toArray, List.set_cons_zero, List.set_cons_succ]
        refine stage_read (i := 1) (v := ?_) rfl (by kernel_rfl) (by kernel_rfl) (by kernel_rfl) (by kernel_rfl) (by kernel_rfl) (by kernel_rfl) (fun _ _ _ h => h) (Or.inl ⟨by kernel_rfl, ?_⟩) ?_
        rotate_left
        · (intro wS hwS; obtain ⟨hcS, hfS, hhS⟩ := bcell hwS; go_simp; try (first | (with_reducible rfl) | rw [if_pos (by omega)] | rw [if_neg (by omega)]))
        try simp only [Act.put, List.getElem_toArray, List.getElem_cons_succ, List.getElem_cons_zero, List.setIfInBounds_toArray, List.set_cons_zero, List.set_cons_succ]
        refine stage_read (i := 2) (v := ?_) rfl (by kernel_rfl) (by kernel_rfl) (by kernel_rfl) (by kernel_rfl) (by kernel_rfl) (by kernel_rfl) (fun _ _ _ h => h) (Or.inl ⟨by kernel_rfl, ?_⟩) ?_
        rotate_left
        · (intro wS hwS; obtain ⟨hcS, hfS, hhS⟩ := bcell hwS; go_simp; try (first | (with_reducible rfl) | rw [if_pos (by omega)] | rw [if_neg (by omega)]))
        try simp only [Act.put, List.getElem_toArray, List.getElem_cons_succ, List.getElem_cons_zero, List.setIfInBounds_toArray, List.set_cons_zero, List.set_cons_succ]
        refine stage_read (i := 3) (v := ?_) rfl (by kernel_rfl) (by kernel_rfl) (by kernel_rfl) (by kernel_rfl) (by kernel_rfl) (by kernel_rfl) (fun _ _ _ h => h) (Or.inl ⟨by kernel_rfl, ?_⟩) ?_
        rotate_left
        · (intro wS hwS; obtain ⟨hcS, hfS, hhS⟩ := bcell hwS; go_simp; try (first | (with_reducible rfl) | rw [if_pos (by omega)] | rw [if_neg (by omega)]))
        try simp only [Act.put, List.getElem_toArray, List.getElem_cons_succ, List.getElem_cons_zero, List.setIfInBounds_toArray, List.set_cons_zero, List.set_cons_succ]
        refine stage_read (i := 5) (v := ?_) rfl (by kernel_rfl) (by kernel_rfl) (by kernel_rfl) (by kernel_rfl) (by kernel_rfl) (by kernel_rfl) (fun _ _ _ h => h) (Or.inl ⟨by kernel_rfl, ?_⟩) ?_
        rotate_left
        · (intro wS hwS; obtain ⟨hcS, hfS, hhS⟩ := bcell hwS; go_simp; try (first | (with_reducible rfl) | rw [if_pos (by omega)] | rw [if_neg (by omega)]))
        try simp only [Act.put, List.getElem_toArray, List.getElem_cons_succ, List.getElem_cons_zero, List.setIfInBounds_toArray, List.set_cons_zero, List.set_cons_succ]
        refine stage_read (i := 6) (v := ?_) rfl (by kernel_rfl) (by kernel_rfl) (by kernel_rfl) (by kernel_rfl) (by kernel_rfl) (by kernel_rfl) (fun _ _ _ h => h) (Or.inl ⟨by kernel_rfl, ?_⟩) ?_
        rotate_left
        · (intro wS hwS; obtain ⟨hcS, hfS, hhS⟩ := bcell hwS; go_simp; try (first | (with_reducible rfl) | rw [if_pos (by omega)] | rw [if_neg (by omega)]))
        try simp only [Act.put, List.getElem_toArray, List.getElem_cons_succ, List.getElem_cons_zero, List.setIfInBounds_toArray, List.set_cons_zero, List.set_cons_succ]
        refine stage_one 4 (by kernel_rfl) rfl (by kernel_rfl) (fun K hK => ?_)
        go_simp
        refine (rev_any _ hst).mono ?_
        rintro z wf ⟨rfl, rfl⟩
        refine hK.out _ _ ((Below.refl _ _)) ?_
        clear hK K
        try simp only [Act.put, List.getElem_toArray, List.getElem_cons_succ, List.getElem_cons_zero, List.setIfInBounds_toArray, List.set_cons_zero, List.set_cons_succ]
        refine stage_read (i := 7) (v := ?_) rfl (by kernel_rfl) (by kernel_rfl) (by kernel_rfl) (by kernel_rfl) (by kernel_rfl) (by kernel_rfl) (fun _ _ _ h => h) (Or.inl ⟨by kernel_rfl, ?_⟩) ?_
        rotate_left
        · (intro wS hwS; obtain ⟨hcS, hfS, hhS⟩ := bcell hwS; go_simp; try (first | (with_reducible rfl) | rw [if_pos (by omega)] | rw [if_neg (by omega)]))
        try simp only [Act.put, List.getElem_toArray, List.getElem_cons_succ, List.getElem_cons_zero, List.setIfInBounds_toArray, List.set_cons_zero, List.set_cons_succ]
        refine stage_read (i := 8) (v := ?_) rfl (by kernel_rfl) (by kernel_rfl) (by kernel_rfl) (by kernel_rfl) (by kernel_rfl) (by kernel_rfl) (fun _ _ _ h => h) (Or.inl ⟨by kernel_rfl, ?_⟩) ?_
        rotate_left
        · (intro wS hwS; obtain ⟨hcS, hfS, hhS⟩ := bcell hwS; go_simp; try (first | (with_reducible rfl) | rw [if_pos (by omega)] | rw [if_neg (by omega)]))
        try simp only [Act.put, List.getElem_toArray, List.getElem_cons_succ, List.getElem_cons_zero, List.setIfInBounds_toArray, List.set_cons_zero, List.set_cons_succ]
        refine stage_read (i := 9) (v := ?_) rfl (by kernel_rfl) (by kernel_rfl) (by kernel_rfl) (by kernel_rfl) (by kernel_rfl) (by kernel_rfl) (fun _ _ _ h => h) (Or.inl ⟨by kernel_rfl, ?_⟩) ?_
        rotate_left
        · (intro wS hwS; obtain ⟨hcS, hfS, hhS⟩ := bcell hwS; go_simp; try (first | (with_reducible rfl) | rw [if_pos (by omega)] | rw [if_neg (by omega)]))
        try simp only [Act.put, List.getElem_toArray, List.getElem_cons_succ, List.getElem_cons_zero, List.setIfInBounds_toArray, List.set_cons_zero, List.set_cons_succ]
        refine stage_read (i := 10) (v := ?_) rfl (by kernel_rfl) (by kernel_rfl) (by kernel_rfl) (by kernel_rfl) (by kernel_rfl) (by kernel_rfl) (fun _ _ _ h => h) (Or.inl ⟨by kernel_rfl, ?_⟩) ?_
        rotate_left
        · (intro wS hwS; obtain ⟨hcS, hfS, hhS⟩ := bcell hwS; go_simp; try (first | (with_reducible rfl) | rw [if_pos (by omega)] | rw [if_neg (by omega)]))
        try simp only [Act.put, List.getElem_toArray, List.getElem_cons_succ, List.getElem_cons_zero, List.setIfInBounds_toArray, List.set_cons_zero, List.set_cons_succ]
        refine stage_read (i := 12) (v := ?_) rfl (by kernel_rfl) (by kernel_rfl) (by kernel_rfl) (by kernel_rfl) (by kernel_rfl) (by kernel_rfl) (fun _ _ _ h => h) (Or.inl ⟨by kernel_rfl, ?_⟩) ?_
        rotate_left
        · (intro wS hwS; obtain ⟨hcS, hfS, hhS⟩ := bcell hwS; go_simp; try (first | (with_reducible rfl) | rw [if_pos (by omega)] | rw [if_neg (by omega)]))
        try simp only [Act.put, List.getElem_toArray, List.getElem_cons_succ, List.getElem_cons_zero, List.setIfInBounds_toArray, List.set_cons_zero, List.set_cons_succ]
        refine stage_read (i := 13) (v := ?_) rfl (by kernel_rfl) (by kernel_rfl) (by kernel_rfl) (by kernel_rfl) (by kernel_rfl) (by kernel_rfl) (fun _ _ _ h => h) (Or.inl ⟨by kernel_rfl, ?_⟩) ?_
        rotate_left
        · (intro wS hwS; obtain ⟨hcS, hfS, hhS⟩ := bcell hwS; go_simp; try (first | (with_reducible rfl) | rw [if_pos (by omega)] | rw [if_neg (by omega)]))
        try simp only [Act.put, List.getElem_toArray, List.getElem_cons_succ, List.getElem_cons_zero, List.setIfInBounds_toArray, List.set_cons_zero, List.set_cons_succ]
        refine stage_one 11 (by kernel_rfl) rfl (by kernel_rfl) (fun K hK => ?_)
        go_simp
        refine (all_any _ hst (by omega) hkm).mono ?_
        rintro z wf ⟨Af, nf, cf, rfl, hownf, hbf⟩
        refine hK.out _ _ (hbf) ?_
        clear hK K
        try simp only [Act.put, List.getElem_toArray, List.getElem_cons_succ, List.getElem_cons_zero, List.setIfInBounds_toArray, List.set_cons_zero, List.set_cons_succ]
        replace hN := hN.step hbf
        replace howna := OwnRI.step howna hbf
        have HB := Lib.hid (chain HB.out hbf)
        clear s0 s1 sf lN hst hbf
        obtain ⟨⟨s0, s1⟩, sf⟩ := at2 hN
        have lN := hN.lt

        refine stage_one 14 (by kernel_rfl) rfl (by kernel_rfl) (fun K hK => ?_)
        go_simp
        refine (sitems_any Af Aa nf cf na ca l' _ (OwnI.rd hownf) (OwnRI.rd howna)).mono ?_
        rintro z wg ⟨rfl, hbg⟩
        refine hK.out _ _ (hbg) ?_
        clear hK K
        try simp only [Act.put, List.getElem_toArray, List.getElem_cons_succ, List.getElem_cons_zero, List.setIfInBounds_toArray, List.set_cons_zero, List.set_cons_succ]
        replace hN := hN.step hbg
        have HB := Lib.hid (chain HB.out hbg)
        clear s0 s1 sf lN howna hownf hbg
        obtain ⟨⟨s0, s1⟩, sf⟩ := at2 hN
        have lN := hN.lt
        refine stage_read (i := 15) (v := ?_) rfl (by kernel_rfl) (by kernel_rfl) (by kernel_rfl) (by kernel_rfl) (by kernel_rfl) (by kernel_rfl) (fun _ _ _ h => h) (Or.inl ⟨by kernel_rfl, ?_⟩) ?_
        rotate_left
        · (intro wS hwS; obtain ⟨hcS, hfS, hhS⟩ := bcell hwS; go_simp; try (first | (with_reducible rfl) | rw [if_pos (by omega)] | rw [if_neg (by omega)]))
        try simp only [Act.put, List.getElem_toArray, List.getElem_cons_succ, List.getElem_cons_zero, List.setIfInBounds_toArray, List.set_cons_zero, List.set_cons_succ]
        refine stage_read (i := 16) (v := ?_) rfl (by kernel_rfl) (by kernel_rfl) (by kernel_rfl) (by kernel_rfl) (by kernel_rfl) (by kernel_rfl) (fun _ _ _ h => h) (Or.inl ⟨by kernel_rfl, ?_⟩) ?_
        rotate_left
        · (intro wS hwS; obtain ⟨hcS, hfS, hhS⟩ := bcell hwS; go_simp; try (first | (with_reducible rfl) | rw [if_pos (by omega)] | rw [if_neg (by omega)]))
        try simp only [Act.put, List.getElem_toArray, List.getElem_cons_succ, List.getElem_cons_zero, List.setIfInBounds_toArray, List.set_cons_zero, List.set_cons_succ]
        refine stage_one 17 (by kernel_rfl) rfl (by kernel_rfl) (fun K hK => ?_)
        go_simp
        refine (awake9_any _).mono ?_
        rintro z wh ⟨rfl, hbh⟩
        refine hK.out _ _ (hbh) ?_
        clear hK K
        try simp only [Act.put, List.getElem_toArray, List.getElem_cons_succ, List.getElem_cons_zero, List.setIfInBounds_toArray, List.set_cons_zero, List.set_cons_succ]
        have HB := Lib.hid (chain HB.out hbh)
        clear s0 s1 sf lN hN hbh
        refine stage_read (i := 18) (v := ?_) rfl (by kernel_rfl) (by kernel_rfl) (by kernel_rfl) (by kernel_rfl) (by kernel_rfl) (by kernel_rfl) (fun _ _ _ h => h) (Or.inl ⟨by kernel_rfl, ?_⟩) ?_
        rotate_left
        · (intro wS hwS; obtain ⟨hcS, hfS, hhS⟩ := bcell hwS; go_simp; try (first | (with_reducible rfl) | rw [if_pos (by omega)] | rw [if_neg (by omega)]))
        try simp only [Act.put, List.getElem_toArray, List.getElem_cons_succ, List.getElem_cons_zero, List.setIfInBounds_toArray, List.set_cons_zero, List.set_cons_succ]
        refine stage_read (i := 19) (v := ?_) rfl (by kernel_rfl) (by kernel_rfl) (by kernel_rfl) (by kernel_rfl) (by kernel_rfl) (by kernel_rfl) (fun _ _ _ h => h) (Or.inl ⟨by kernel_rfl, ?_⟩) ?_
        rotate_left
        · (intro wS hwS; obtain ⟨hcS, hfS, hhS⟩ := bcell hwS; go_simp; try (first | (with_reducible rfl) | rw [if_pos (by omega)] | rw [if_neg (by omega)]))
        try simp only [Act.put, List.getElem_toArray, List.getElem_cons_succ, List.getElem_cons_zero, List.setIfInBounds_toArray, List.set_cons_zero, List.set_cons_succ]
        first | refine wpAnyT_done (by kernel_rfl) ?_ _ | refine wpAny_done (by kernel_rfl) ?_ _
        go_wp2_with fail
        go_ret
        exact ⟨rfl, HB.out⟩
  · have hr := hr0
    have hl8 : L.length = n := hl
    generalize L = l at *
    clear hr0
    go_enter Try.func14, Try.ntmps14
    go_upto_region 4 with fail
    obtain ⟨h5, h7, hb⟩ := two_at w 54 [.string ek, .string ev, .int .i64 er, .bool eg] 81 [.int .i64 rev, .slice A n c]
    have hg5 : w.heap.size < w.heap.size + 1 := by omega
    have hs2 : w.heap.size + 1 < (World.alloc (World.alloc w (.cells #[.string ek, .string ev, .int .i64 er, .bool eg] 54)) (.cells #[.int .i64 rev, .slice A n c] 81)).heap.size := by simp
    generalize World.alloc (World.alloc w _) _ = w2 at *
    have HR := fun v (h : Below w.heap.size w v) => Rd.step hr h
    clear hr
    have HI := items_any A n c l w2 (HR w2 hb) (by omega)
    cases hq : rightL rev l with
    | false =>
      have HOF := fun A3 n3 c3 v (h : RdI v v.heap.size A3 n3 c3 l) (hn : n3 ≤ 100000) => of_no v h hn hq
      have HRT := fun v (h : RdI v v.heap.size A n c l) => rkright_any A n c l rev v h
      rw [hq] at HRT
      go_upto_region 5 with (first | (((with_reducible refine (HI).mono ?_); rintro z w3 ⟨A3, n3, c3, rfl, hown3, hb3⟩); (have hn3 : n3 ≤ 100000 := by have := hown3.len; omega)) | (((with_reducible refine ((HOF A3 n3 c3 w3 hown3.rd hn3)).mono ?_); rintro z w4 ⟨rfl, hb4⟩)))
      replace h7 := (h7.step hb3).step hb4
      replace hb := chain (chain hb hb3) hb4
      clear HI HOF hown3
      obtain ⟨⟨s0, s1⟩, sf⟩ := at2 h7
      have HRT := HRT w4 (HR w4 hb)
      go_wp2_with (first | (((with_reducible refine (HRT).mono ?_); rintro z w5 ⟨rfl, hb5⟩)) | (((with_reducible refine ((awake9_any w5)).mono ?_); rintro z w6 ⟨rfl, hb6⟩)))
      go_ret
      exact ⟨rfl, chain (chain hb hb5) hb6⟩
    | true =>
      have hlo := rightL_lo hq
      have hks := rightL_keys hq
      have hk1 : ∀ x ∈ l, x.k.size ≤ 1000 := fun x hx => keyB_le (hks x hx)
      have HOF := fun A3 n3 c3 v (h : RdI v v.heap.size A3 n3 c3 l) (hn : n3 ≤ 100000) => of_yes v h hn hq
      have HRT := fun v (h : RdI v v.heap.size A n c l) => rkright_any A n c l rev v h
      rw [hq] at HRT
      go_upto_region 5 with (first | (((with_reducible refine (HI).mono ?_); rintro z w3 ⟨A3, n3, c3, rfl, hown3, hb3⟩); (have hn3 : n3 ≤ 100000 := by have := hown3.len; omega)) | (((with_reducible refine ((HOF A3 n3 c3 w3 hown3.rd hn3)).mono ?_); rintro z w4 ⟨g, b, rfl, hst, hbg, hgb, hb4⟩)))
      have hs3 := hb3.size
      have hlt4 := hst.lt
      replace h5 := (h5.step hb3).step hb4
      replace h7 := (h7.step hb3).step hb4
      replace hb := chain (chain hb hb3) hb4
      have hs4 := hb4.size
      clear HI HOF hown3 hb3 hb4
      have hlw : w.heap.size ≤ b := by omega
      obtain ⟨⟨s0, s1⟩, sf⟩ := at2 h7
      have HRT := HRT w4 (HR w4 hb)
      go_upto_region 7 with (((with_reducible refine (HRT).mono ?_); rintro z w5 ⟨rfl, hb5⟩))
      replace hst := hst.step hb5
      replace h5 := h5.step hb5
      replace h7 := h7.step hb5
      replace hb := chain hb hb5
      clear HRT s0 s1 sf hb5
      have HREV := rev_any w5 hst
      have HALL := all_any w5 hst (by omega) hk1
      have hrr : (rev == rev) = true := by simp
      have hrn : (rev != rev) = false := by simp
      go_upto_region 9 with (first | (((with_reducible refine (HREV).mono ?_); rintro z v ⟨rfl, rfl⟩)) | (((with_reducible refine (HALL).mono ?_); rintro z w6 ⟨A6, n6, c6, rfl, hown6, hb6⟩)) | (((with_reducible refine ((sitems_any A6 A n6 c6 n c l w6 hown6.rd (HR w6 (chain hb hb6)))).mono ?_); rintro z w7 ⟨rfl, hb7⟩)))
      replace hst := (hst.step hb6).step hb7
      replace h5 := (h5.step hb6).step hb7
      replace h7 := (h7.step hb6).step hb7
      replace hb := chain (chain hb hb6) hb7
      clear HREV HALL hown6 hb6 hb7
      obtain ⟨⟨x0, x1, x2, x3⟩, xf⟩ := at4 h5
      have HAP := apply_any ek ev er eg w7 hst (by omega) hfk
      have HMAY := fun v (h : RdI v v.heap.size A n c l) => rmay_any A n c l rev ek ev er eg v h hlo hhi
      unfold ApR at HAP
      cases hap : apOk rev l ⟨ek, ev, er, eg⟩ with
      | false =>
        rw [hap] at HAP HMAY
        simp only [Bool.false_eq_true, if_false] at HAP
        go_upto_region 10 with (((with_reducible refine (HAP).mono ?_); rintro z w8 ⟨rfl, hst8, hm8⟩))
        have hst := hst8
        replace h5 := hm8.at h5 (by rintro (e | e) <;> omega)
        replace h7 := hm8.at h7 (by rintro (e | e) <;> omega)
        replace hb := hb.trans (hm8.toBelow (fun i o hi e => by rcases e with e | e <;> omega) hb.size)
        clear HAP hst8 hm8 x0 x1 x2 x3 xf
        obtain ⟨⟨x0, x1, x2, x3⟩, xf⟩ := at4 h5
        obtain ⟨⟨s0, s1⟩, sf⟩ := at2 h7
        have HMAY := HMAY w8 (HR w8 hb)
        go_upto_region 11 with (((with_reducible refine (HMAY).mono ?_); rintro z w9 ⟨rfl, hb9⟩))
        replace hst := hst.step hb9
        replace hb := chain hb hb9
        clear HMAY hb9 x0 x1 x2 x3 xf s0 s1 sf
        have HREV := rev_any w9 hst
        have HALL := all_any w9 hst (by omega) hk1
        go_wp2_with (first | (((with_reducible refine (HREV).mono ?_); rintro z v ⟨rfl, rfl⟩)) | (((with_reducible refine (HALL).mono ?_); rintro z wa ⟨Aa, na, ca, rfl, howna, hba⟩)) | (((with_reducible refine ((sitems_any Aa A na ca n c l wa howna.rd (HR wa (chain hb hba)))).mono ?_); rintro z wb ⟨rfl, hbb⟩)) | (((with_reducible refine ((awake9_any wb)).mono ?_); rintro z wc ⟨rfl, hbc⟩)))
        go_ret
        exact ⟨rfl, chain (chain (chain hb hba) hbb) hbc⟩
      | true =>
        rw [hap] at HAP HMAY
        simp only [if_true] at HAP
        have hkm : ∀ x ∈ applyL ⟨ek, ev, er⟩ eg l, x.k.size ≤ 1000 := fun x hx => by
          rcases applyL_mem (rightL_asc hq) hx with rfl | h
          · exact keyB_le (apOk_key hap)
          · exact hk1 x h
        have hsh : (applyL ⟨ek, ev, er⟩ eg l).length ≤ 100 := Nat.le_trans applyL_short (by omega)
        go_upto_region 10 with (((with_reducible refine (HAP).mono ?_); rintro z w8 ⟨rfl, hst8, hm8⟩))
        have hst := hst8
        replace h5 := hm8.at h5 (by rintro (e | e) <;> omega)
        replace h7 := hm8.at h7 (by rintro (e | e) <;> omega)
        replace hb := hb.trans (hm8.toBelow (fun i o hi e => by rcases e with e | e <;> omega) hb.size)
        clear HAP hst8 hm8 x0 x1 x2 x3 xf
        obtain ⟨⟨x0, x1, x2, x3⟩, xf⟩ := at4 h5
        obtain ⟨⟨s0, s1⟩, sf⟩ := at2 h7
        have HMAY := HMAY w8 (HR w8 hb)
        go_upto_region 12 with (((with_reducible refine (HMAY).mono ?_); rintro z w9 ⟨rfl, hb9⟩))
        replace hst := hst.step hb9
        replace h5 := h5.step hb9
        replace h7 := h7.step hb9
        replace hb := chain hb hb9
        clear HMAY hb9 x0 x1 x2 x3 xf s0 s1 sf
        obtain ⟨⟨x0, x1, x2, x3⟩, xf⟩ := at4 h5
        obtain ⟨⟨s0, s1⟩, sf⟩ := at2 h7
        have HRA := rapply_any A n c l rev ek ev er eg w9 (HR w9 hb) (by omega)
        unfold Eff.it at hst
        simp only at hst
        generalize applyL ⟨ek, ev, er⟩ eg l = l' at *
        go_upto_region 13 with (((with_reducible refine (HRA).mono ?_); rintro z wa ⟨Aa, na, ca, rfl, howna, hba⟩))
        obtain ⟨hN, hbN⟩ := one_at wa 81 [.int .i64 er, .slice Aa na ca]
        replace hst := (hst.step hba).step hbN
        replace howna := OwnRI.step howna hbN
        replace hb := chain (chain hb hba) hbN
        clear HRA hba hbN x0 x1 x2 x3 xf s0 s1 sf h5 h7
        generalize World.alloc wa _ = wd at *
        obtain ⟨gN, hgN⟩ : ∃ gN, wa.heap.size = gN := ⟨_, rfl⟩
        rw [hgN] at hN ⊢
        clear hgN
        refine region_any (by kernel_rfl) ?_
        change wpAny _ _ _ _ _ _ _ (World.drew _)
        replace hst := hst.drew
        replace hN := hN.drew
        replace howna := (show wd.drew.ownsRow _ _ _ _ _ _ from howna)
        have HB := Lib.hid hb.drew
        clear hb
        generalize World.drew _ = we at *
        obtain ⟨⟨s0, s1⟩, sf⟩ := at2 hN
        have lN := hN.lt
        have hee : (er == er) = true := by simp
        refine stage 100000 ?_
        refine stage_read (i := 0) (v := ?_) rfl (by kernel_rfl) (by kernel_rfl) (by kernel_rfl) (by kernel_rfl) (by kernel_rfl) (by kernel_rfl) (fun _ _ _ h => h) (Or.inl ⟨by kernel_rfl, ?_⟩) ?_
        rotate_left
        · (intro wS hwS; obtain ⟨hcS, hfS, hhS⟩ := bcell hwS; go_simp; try (first | (with_reducible rfl) | rw [if_pos (by omega)] | rw [if_neg (by omega)]))
        try simp only [Act.put, List.getElem_toArray, List.getElem_cons_succ, List.getElem_cons_zero, List.setIfInBounds_toArray, List.set_cons_zero, List.set_cons_succ]
        refine stage_read (i := 1) (v := ?_) rfl (by kernel_rfl) (by kernel_rfl) (by kernel_rfl) (by kernel_rfl) (by kernel_rfl) (by kernel_rfl) (fun _ _ _ h => h) (Or.inl ⟨by kernel_rfl, ?_⟩) ?_
        rotate_left
        · (intro wS hwS; obtain ⟨hcS, hfS, hhS⟩ := bcell hwS; go_simp; try (first | (with_reducible rfl) | rw [if_pos (by omega)] | rw [if_neg (by omega)]))
        try simp only [Act.put, List.getElem_toArray, List.getElem_cons_succ, List.getElem_cons_zero, List.setIfInBounds_toArray, List.set_cons_zero, List.set_cons_succ]
        refine stage_read (i := 2) (v := ?_) rfl (by kernel_rfl) (by kernel_rfl) (by kernel_rfl) (by kernel_rfl) (by kernel_rfl) (by kernel_rfl) (fun _ _ _ h => h) (Or.inl ⟨by kernel_rfl, ?_⟩) ?_
        rotate_left
        · (intro wS hwS; obtain ⟨hcS, hfS, hhS⟩ := bcell hwS; go_simp; try (first | (with_reducible rfl) | rw [if_pos (by omega)] | rw [if_neg (by omega)]))
        try simp only [Act.put, List.getElem_toArray, List.getElem_cons_succ, List.getElem_cons_zero, List.setIfInBounds_toArray, List.set_cons_zero, List.set_cons_succ]
        refine stage_read (i := 3) (v := ?_) rfl (by kernel_rfl) (by kernel_rfl) (by kernel_rfl) (by kernel_rfl) (by kernel_rfl) (by kernel_rfl) (fun _ _ _ h => h) (Or.inl ⟨by kernel_rfl, ?_⟩) ?_
        rotate_left
        · (intro wS hwS; obtain ⟨hcS, hfS, hhS⟩ := bcell hwS; go_simp; try (first | (with_reducible rfl) | rw [if_pos (by omega)] | rw [if_neg (by omega)]))
        try simp only [Act.put, List.getElem_toArray, List.getElem_cons_succ, List.getElem_cons_zero, List.setIfInBounds_toArray, List.set_cons_zero, List.set_cons_succ]
        refine stage_read (i := 5) (v := ?_) rfl (by kernel_rfl) (by kernel_rfl) (by kernel_rfl) (by kernel_rfl) (by kernel_rfl) (by kernel_rfl) (fun _ _ _ h => h) (Or.inl ⟨by kernel_rfl, ?_⟩) ?_
        rotate_left
        · (intro wS hwS; obtain ⟨hcS, hfS, hhS⟩ := bcell hwS; go_simp; try (first | (with_reducible rfl) | rw [if_pos (by omega)] | rw [if_neg (by omega)]))
        try simp only [Act.put, List.getElem_toArray, List.getElem_cons_succ, List.getElem_cons_zero, List.setIfInBounds_toArray, List.set_cons_zero, List.set_cons_succ]
        refine stage_read (i := 6) (v := ?_) rfl (by kernel_rfl) (by kernel_rfl) (by kernel_rfl) (by kernel_rfl) (by kernel_rfl) (by kernel_rfl) (fun _ _ _ h => h) (Or.inl ⟨by kernel_rfl, ?_⟩) ?_
        rotate_left
        · (intro wS hwS; obtain ⟨hcS, hfS, hhS⟩ := bcell hwS; go_simp; try (first | (with_reducible rfl) | rw [if_pos (by omega)] | rw [if_neg (by omega)]))
        try simp only [Act.put, List.getElem_toArray, List.getElem_cons_succ, List.getElem_cons_zero, List.setIfInBounds_toArray, List.set_cons_zero, List.set_cons_succ]
        refine stage_one 4 (by kernel_rfl) rfl (by kernel_rfl) (fun K hK => ?_)
        go_simp
        refine (rev_any _ hst).mono ?_
        rintro z wf ⟨rfl, rfl⟩
        refine hK.out _ _ ((Below.refl _ _)) ?_
        clear hK K
        try simp only [Act.put, List.getElem_toArray, List.getElem_cons_succ, List.getElem_cons_zero, List.setIfInBounds_toArray, List.set_cons_zero, List.set_cons_succ]
        refine stage_read (i := 7) (v := ?_) rfl (by kernel_rfl) (by kernel_rfl) (by kernel_rfl) (by kernel_rfl) (by kernel_rfl) (by kernel_rfl) (fun _ _ _ h => h) (Or.inl ⟨by kernel_rfl, ?_⟩) ?_
        rotate_left
        · (intro wS hwS; obtain ⟨hcS, hfS, hhS⟩ := bcell hwS; go_simp; try (first | (with_reducible rfl) | rw [if_pos (by omega)] | rw [if_neg (by omega)]))
        try simp only [Act.put, List.getElem_toArray, List.getElem_cons_succ, List.getElem_cons_zero, List.setIfInBounds_toArray, List.set_cons_zero, List.set_cons_succ]
        refine stage_read (i := 8) (v := ?_) rfl (by kernel_rfl) (by kernel_rfl) (by kernel_rfl) (by kernel_rfl) (by kernel_rfl) (by kernel_rfl) (fun _ _ _ h => h) (Or.inl ⟨by kernel_rfl, ?_⟩) ?_
        rotate_left
        · (intro wS hwS; obtain ⟨hcS, hfS, hhS⟩ := bcell hwS; go_simp; try (first | (with_reducible rfl) | rw [if_pos (by omega)] | rw [if_neg (by omega)]))
        try simp only [Act.put, List.getElem_toArray, List.getElem_cons_succ, List.getElem_cons_zero, List.setIfInBounds_toArray, List.set_cons_zero, List.set_cons_succ]
        refine stage_read (i := 9) (v := ?_) rfl (by kernel_rfl) (by kernel_rfl) (by kernel_rfl) (by kernel_rfl) (by kernel_rfl) (by kernel_rfl) (fun _ _ _ h => h) (Or.inl ⟨by kernel_rfl, ?_⟩) ?_
        rotate_left
        · (intro wS hwS; obtain ⟨hcS, hfS, hhS⟩ := bcell hwS; go_simp; try (first | (with_reducible rfl) | rw [if_pos (by omega)] | rw [if_neg (by omega)]))
        try simp only [Act.put, List.getElem_toArray, List.getElem_cons_succ, List.getElem_cons_zero, List.setIfInBounds_toArray, List.set_cons_zero, List.set_cons_succ]
        refine stage_read (i := 10) (v := ?_) rfl (by kernel_rfl) (by kernel_rfl) (by kernel_rfl) (by kernel_rfl) (by kernel_rfl) (by kernel_rfl) (fun _ _ _ h => h) (Or.inl ⟨by kernel_rfl, ?_⟩) ?_
        rotate_left
        · (intro wS hwS; obtain ⟨hcS, hfS, hhS⟩ := bcell hwS; go_simp; try (first | (with_reducible rfl) | rw [if_pos (by omega)] | rw [if_neg (by omega)]))
        try simp only [Act.put, List.getElem_toArray, List.getElem_cons_succ, List.getElem_cons_zero, List.setIfInBounds_toArray, List.set_cons_zero, List.set_cons_succ]
        refine stage_read (i := 12) (v := ?_) rfl (by kernel_rfl) (by kernel_rfl) (by kernel_rfl) (by kernel_rfl) (by kernel_rfl) (by kernel_rfl) (fun _ _ _ h => h) (Or.inl ⟨by kernel_rfl, ?_⟩) ?_
        rotate_left
        · (intro wS hwS; obtain ⟨hcS, hfS, hhS⟩ := bcell hwS; go_simp; try (first | (with_reducible rfl) | rw [if_pos (by omega)] | rw [if_neg (by omega)]))
        try simp only [Act.put, List.getElem_toArray, List.getElem_cons_succ, List.getElem_cons_zero, List.setIfInBounds_toArray, List.set_cons_zero, List.set_cons_succ]
        refine stage_read (i := 13) (v := ?_) rfl (by kernel_rfl) (by kernel_rfl) (by kernel_rfl) (by kernel_rfl) (by kernel_rfl) (by kernel_rfl) (fun _ _ _ h => h) (Or.inl ⟨by kernel_rfl, ?_⟩) ?_
        rotate_left
        · (intro wS hwS; obtain ⟨hcS, hfS, hhS⟩ := bcell hwS; go_simp; try (first | (with_reducible rfl) | rw [if_pos (by omega)] | rw [if_neg (by omega)]))
        try simp only [Act.put, List.getElem_toArray, List.getElem_cons_succ, List.getElem_cons_zero, List.setIfInBounds_toArray, List.set_cons_zero, List.set_cons_succ]
        refine stage_one 11 (by kernel_rfl) rfl (by kernel_rfl) (fun K hK => ?_)
        go_simp
        refine (all_any _ hst (by omega) hkm).mono ?_
        rintro z wf ⟨Af, nf, cf, rfl, hownf, hbf⟩
        refine hK.out _ _ (hbf) ?_
        clear hK K
        try simp only [Act.put, List.getElem_toArray, List.getElem_cons_succ, List.getElem_cons_zero, List.setIfInBounds_toArray, List.set_cons_zero, List.set_cons_succ]
        replace hN := hN.step hbf
        replace howna := OwnRI.step howna hbf
        have HB := Lib.hid (chain HB.out hbf)
        clear s0 s1 sf lN hst hbf
        obtain ⟨⟨s0, s1⟩, sf⟩ := at2 hN
        have lN := hN.lt

        refine stage_one 14 (by kernel_rfl) rfl (by kernel_rfl) (fun K hK => ?_)
        go_simp
        refine (sitems_any Af Aa nf cf na ca l' _ (OwnI.rd hownf) (OwnRI.rd howna)).mono ?_
        rintro z wg ⟨rfl, hbg⟩
        refine hK.out _ _ (hbg) ?_
        clear hK K
        try simp only [Act.put, List.getElem_toArray, List.getElem_cons_succ, List.getElem_cons_zero, List.setIfInBounds_toArray, List.set_cons_zero, List.set_cons_succ]
        replace hN := hN.step hbg
        have HB := Lib.hid (chain HB.out hbg)
        clear s0 s1 sf lN howna hownf hbg
        obtain ⟨⟨s0, s1⟩, sf⟩ := at2 hN
        have lN := hN.lt
        refine stage_read (i := 15) (v := ?_) rfl (by kernel_rfl) (by kernel_rfl) (by kernel_rfl) (by kernel_rfl) (by kernel_rfl) (by kernel_rfl) (fun _ _ _ h => h) (Or.inl ⟨by kernel_rfl, ?_⟩) ?_
        rotate_left
        · (intro wS hwS; obtain ⟨hcS, hfS, hhS⟩ := bcell hwS; go_simp; try (first | (with_reducible rfl) | rw [if_pos (by omega)] | rw [if_neg (by omega)]))
        try simp only [Act.put, List.getElem_toArray, List.getElem_cons_succ, List.getElem_cons_zero, List.setIfInBounds_toArray, List.set_cons_zero, List.set_cons_succ]
        refine stage_read (i := 16) (v := ?_) rfl (by kernel_rfl) (by kernel_rfl) (by kernel_rfl) (by kernel_rfl) (by kernel_rfl) (by kernel_rfl) (fun _ _ _ h => h) (Or.inl ⟨by kernel_rfl, ?_⟩) ?_
        rotate_left
        · (intro wS hwS; obtain ⟨hcS, hfS, hhS⟩ := bcell hwS; go_simp; try (first | (with_reducible rfl) | rw [if_pos (by omega)] | rw [if_neg (by omega)]))
        try simp only [Act.put, List.getElem_toArray, List.getElem_cons_succ, List.getElem_cons_zero, List.setIfInBounds_toArray, List.set_cons_zero, List.set_cons_succ]
        refine stage_one 17 (by kernel_rfl) rfl (by kernel_rfl) (fun K hK => ?_)
        go_simp
        refine (awake9_any _).mono ?_
        rintro z wh ⟨rfl, hbh⟩
        refine hK.out _ _ (hbh) ?_
        clear hK K
        try simp only [Act.put, List.getElem_toArray, List.getElem_cons_succ, List.getElem_cons_zero, List.setIfInBounds_toArray, List.set_cons_zero, List.set_cons_succ]
        have HB := Lib.hid (chain HB.out hbh)
        clear s0 s1 sf lN hN hbh
        refine stage_read (i := 18) (v := ?_) rfl (by kernel_rfl) (by kernel_rfl) (by kernel_rfl) (by kernel_rfl) (by kernel_rfl) (by kernel_rfl) (fun _ _ _ h => h) (Or.inl ⟨by kernel_rfl, ?_⟩) ?_
        rotate_left
        · (intro wS hwS; obtain ⟨hcS, hfS, hhS⟩ := bcell hwS; go_simp; try (first | (with_reducible rfl) | rw [if_pos (by omega)] | rw [if_neg (by omega)]))
        try simp only [Act.put, List.getElem_toArray, List.getElem_cons_succ, List.getElem_cons_zero, List.setIfInBounds_toArray, List.set_cons_zero, List.set_cons_succ]
        refine stage_read (i := 19) (v := ?_) rfl (by kernel_rfl) (by kernel_rfl) (by kernel_rfl) (by kernel_rfl) (by kernel_rfl) (by kernel_rfl) (fun _ _ _ h => h) (Or.inl ⟨by kernel_rfl, ?_⟩) ?_
        rotate_left
        · (intro wS hwS; obtain ⟨hcS, hfS, hhS⟩ := bcell hwS; go_simp; try (first | (with_reducible rfl) | rw [if_pos (by omega)] | rw [if_neg (by omega)]))
        try simp only [Act.put, List.getElem_toArray, List.getElem_cons_succ, List.getElem_cons_zero, List.setIfInBounds_toArray, List.set_cons_zero, List.set_cons_succ]
        first | refine wpAnyT_done (by kernel_rfl) ?_ _ | refine wpAny_done (by kernel_rfl) ?_ _
        go_wp2_with fail
        go_ret
        exact ⟨rfl, HB.out⟩
end Go.Proofs.Ytcpkaolfafeojaa
