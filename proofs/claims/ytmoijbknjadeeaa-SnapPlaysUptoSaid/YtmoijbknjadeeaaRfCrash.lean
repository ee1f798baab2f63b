
/- Chapter 6: the document's Crash. -/
import Derived.Test.YtmoijbknjadeeaaRfOps2
import Derived.Test.YtmoijbknjadeeaaDkCrash
namespace Go.Proofs.Ytmoijbknjadeeaa
set_option linter.unusedVariables false
set_option linter.unusedSimpArgs false
open Go.RowKit
section
variable {w w' : World} {g : Nat} {l : List Fi} {gone : Bool} {left : Int}
set_option maxRecDepth 100000 in
set_option maxHeartbeats 4000000 in
theorem rcrash_any (Ak : Option Addr) (n c : Nat) (ks : List Nat) (w : World) (h : IsRf w g l gone left) (hk0 : RdK w w.heap.size Ak n c ks) (hks : ∀ x ∈ ks, x < 65536) (hl : l.length ≤ 100000)
    (hsz : ∀ x ∈ l, 0 ≤ x.s ∧ x.s ≤ x.b.length ∧ x.b.length ≤ 100000000) :
    Calls Try.prog 46 #[.pointer (some ⟨g, 0, none⟩), .slice Ak n c] w fun x w' => x = .returned (.tuple #[]) ∧ Mod (fun i _ => i = g) w w' ∧ IsRf w' g (crashF ks 0 l) false (-1) := by
  obtain ⟨A, cL, h1, h2⟩ := h.ex
  have hr := h2.rd
  have hmax := hr.max
  have hle := hr.le
  unfold maxLen at hmax
  have hcn : ks.length = n := by have := hk0.len; rw [List.length_map] at this; omega
  have hcl := hk0.le
  have hcm := hk0.max
  unfold maxLen at hcm
  have HR := Lib.hid hr
  have HK := Lib.hid hk0
  have HKS := Lib.hid hks
  have HSZ := Lib.hid hsz
  have H := Lib.hid h
  have hgl := h.lt
  obtain ⟨⟨x0, x1, x2⟩, xf⟩ := at3 h1
  clear h hr h1 h2 hk0 hks hsz
  go_enter Try.func46, Try.ntmps46
  go_wp2_with fail
  clear x0 x1 x2 xf
  go_loopw [4, 13] (fun v i wr => ∃ (k c1 : Nat) (A1 : Option Addr), i = .int .i64 (k : Int) ∧ v = .slice A1 k c1 ∧ k ≤ l.length ∧ OwnRF wr w.heap.size A1 k c1 ((crashF ks 0 l).take k) ∧ Below w.heap.size w wr) (fun _ i _ => l.length - (intOf i).toNat)
  case atStart => exact ⟨0, 0, none, rfl, rfl, Nat.zero_le _, World.ownsRow_nil _ _ _ _, Below.refl _ _⟩
  case round =>
    obtain ⟨k, c1, A1, rfl, rfl, hk, hown, hb⟩ := hrel
    have hsz := hb.size
    by_cases hlt : k < l.length
    · obtain ⟨gs, off, e, hg, he⟩ := HR.out.elem Fi.row_length (by omega) (k := k) hlt
      subst e
      have hbc := bcell (Below.mono (B := w.heap.size) hb (Nat.le_refl _))
      have e0 := (hbc.1 _ _ hg).trans (he 0 _ rfl)
      have e1 := (hbc.1 _ _ hg).trans (he 1 _ rfl)
      have e2 := (hbc.1 _ _ hg).trans (he 2 _ rfl)
      rw [Nat.add_zero] at e0
      have hcs := crashF_succ (ks := ks) hlt
      have hxs := HSZ.out l[k] (List.getElem_mem hlt)
      clear he hbc
      generalize l[k] = x at *
      obtain ⟨fk, fb, fA, fn, fc, fs⟩ := x
      simp only at e0 e1 e2 hxs
      obtain ⟨hs0, hs1, hfb⟩ := hxs
      obtain ⟨S, rfl⟩ := Int.eq_ofNat_of_zero_le hs0
      have hS : S ≤ fb.length := by omega
      obtain ⟨m, hm0⟩ : ∃ m, crashN ks k ⟨fk, fb, fA, fn, fc, (S : Int)⟩ = m := ⟨_, rfl⟩
      have hml : m ≤ fb.length := by rw [← hm0]; exact crashN_le (by show ((S : Int)).toNat ≤ fb.length; omega)
      unfold crashX at hcs
      rw [hm0] at hcs
      simp only at hcs
      unfold crashN at hm0
      simp only [Int.toNat_natCast] at hm0
      have hext : (⟨fb.toArray⟩ : ByteArray).extract 0 m = ⟨(fb.take m).toArray⟩ := ext_take fb m
      have HCS := Lib.hid hcs
      have HO := Lib.hid hown
      have HB := Lib.hid hb
      clear hcs hown hb hs0 hs1
      go_upto_region 4 with fail
      obtain ⟨h6, hb3⟩ := one_at wr 52 [.string fk, .string ⟨fb.toArray⟩, .int .i64 (S : Int)]
      have HO := Lib.hid (HO.out.step hb3)
      have HB := Lib.hid (chain HB.out hb3)
      have hz3 := Nat.le_trans hsz hb3.size
      clear hb3 e0 e1 e2
      generalize World.alloc wr _ = w3 at *
      obtain ⟨g6, hg6⟩ : ∃ g6, wr.heap.size = g6 := ⟨_, rfl⟩
      rw [hg6] at h6 ⊢
      clear hg6
      obtain ⟨⟨y0, y1, y2⟩, yf⟩ := at3 h6
      by_cases hki : k < n
      ·
        have hk2 : k < ks.length := by omega
        rw [dif_pos hk2] at hm0
        obtain ⟨gk, ok, u, e, hgk, hu, hck⟩ := (HK.out.keep (fun p hp => HB.out.cell hp)).get (k := k) hki
        subst e
        have hkb := HKS.out ks[k] (List.getElem_mem hk2)
        rw [List.getElem?_map, List.getElem?_eq_getElem hk2] at hu
        have hu3 := (Option.some.inj hu).symm
        subst hu3
        clear hu
        generalize ks[k] = kk at *
        have hlast : (S : Int) + ((kk % (fb.length - S + 1) : Nat) : Int) = (m : Int) := by rw [← hm0]; omega
        have hd1 : ((fb.length : Int) - (S : Int)) = ((fb.length - S : Nat) : Int) := by omega
        have hw1 : IntKind.i64.wrap ((fb.length : Int) - (S : Int)) = ((fb.length - S : Nat) : Int) := by rw [hd1]; exact IntWalk.i64_in _ (by omega)
        have hw2 : IntKind.i64.wrap (((fb.length - S : Nat) : Int) + 1) = ((fb.length - S + 1 : Nat) : Int) := by rw [show (((fb.length - S : Nat) : Int) + 1) = ((fb.length - S + 1 : Nat) : Int) by omega]; exact IntWalk.i64_in _ (by omega)
        have hwk : IntKind.i64.wrap (kk : Int) = (kk : Int) := IntWalk.i64_in _ (by omega)
        have heq : (S : Int) + (kk : Int) % (((fb.length - S : Nat) : Int) + 1) = (m : Int) := by rw [← hlast]; simp
        have hval : wrap64 ((S : Int) + (kk : Int) % (((fb.length - S : Nat) : Int) + 1)) = (m : Int) := by rw [heq]; unfold wrap64; omega
        have HVAL := Lib.hid hval
        have hgw : gk < w3.heap.size := Nat.lt_of_lt_of_le hgk hz3
        clear hval heq hlast
        go_upto_region 6 with fail
        go_quiet (fail)
        rw [HVAL.out]
        clear HVAL hck y0 y1 y2 yf hw1 hw2 hd1 hwk
        replace h6 := h6.drewN nq
        have HO := Lib.hid (show OwnRF (w3.drewN nq) w.heap.size A1 k c1 ((crashF ks 0 l).take k) from HO.out)
        have HB := Lib.hid (below_drewN HB.out nq)
        replace hz3 : w.heap.size ≤ (w3.drewN nq).heap.size := hz3
        clear hgw
        generalize World.drewN _ _ = w3 at *
        go_upto_region 7 with fail
        refine region_any (by kernel_rfl) ?_
        change wpAny _ _ _ _ _ _ _ (World.drew _)
        replace h6 := h6.drew
        have HO := Lib.hid (show OwnRF (World.drew w3) w.heap.size A1 k c1 ((crashF ks 0 l).take k) from HO.out)
        have HB := Lib.hid HB.out.drew
        replace hz3 : w.heap.size ≤ (World.drew w3).heap.size := hz3
        generalize World.drew _ = w4 at *
        obtain ⟨⟨y0, y1, y2⟩, yf⟩ := at3 h6
        have l6 := h6.lt
        have hbn := (one_at w4 52 [.string fk, .string ⟨(fb.take m).toArray⟩, .int .i64 (m : Int)]).2
        have HN := Lib.hid (Rd.lit (w := w4) (t := 52) (n := 1) (cs := [.string fk, .string ⟨(fb.take m).toArray⟩, .int .i64 (m : Int)]) rfl (by simp [maxLen]) (by omega : 0 < 3))
        have HO2 := Lib.hid (HO.out.step hbn)
        have HB2 := Lib.hid (chain HB.out hbn)
        have hsn := Nat.le_trans hz3 hbn.size
        refine stage 10 ?_
        refine stage_read (i := 0) (v := ?_) rfl (by kernel_rfl) (by kernel_rfl) (by kernel_rfl) (by kernel_rfl) (by kernel_rfl) (by kernel_rfl) (fun _ _ _ h => h) (Or.inl ⟨by kernel_rfl, ?_⟩) ?_
        rotate_left
        · (intro wS hwS; obtain ⟨hcS, hfS, hhS⟩ := bcell hwS; go_simp; try (first | (with_reducible rfl) | rw [if_pos (by omega)] | rw [if_neg (by omega)]))
        try simp only [Act.put, List.getElem_toArray, List.getElem_cons_succ, List.getElem_cons_zero, List.setIfInBounds_toArray, List.set_cons_zero, List.set_cons_succ]
        refine stage_read (i := 1) (v := ?_) rfl (by kernel_rfl) (by kernel_rfl) (by kernel_rfl) (by kernel_rfl) (by kernel_rfl) (by kernel_rfl) (fun _ _ _ h => h) (Or.inl ⟨by kernel_rfl, ?_⟩) ?_
        rotate_left
        · (intro wS hwS; obtain ⟨hcS, hfS, hhS⟩ := bcell hwS; go_simp; try (first | (with_reducible rfl) | rw [if_pos (by omega)] | rw [if_neg (by omega)]))
        try simp only [Act.put, List.getElem_toArray, List.getElem_cons_succ, List.getElem_cons_zero, List.setIfInBounds_toArray, List.set_cons_zero, List.set_cons_succ]
        refine stage_read (i := 2) (v := ?_) rfl (by kernel_rfl) (by kernel_rfl) (by kernel_rfl) (by kernel_rfl) (by kernel_rfl) (by kernel_rfl) (fun _ _ _ h => h) (Or.inl ⟨by kernel_rfl, ?_⟩) ?_
        rotate_left
        · (intro wS hwS; obtain ⟨hcS, hfS, hhS⟩ := bcell hwS; go_simp; try (first | (with_reducible rfl) | rw [if_pos (by omega)] | rw [if_neg (by omega)]))
        try simp only [Act.put, List.getElem_toArray, List.getElem_cons_succ, List.getElem_cons_zero, List.setIfInBounds_toArray, List.set_cons_zero, List.set_cons_succ]
        refine stage_read (i := 3) (v := ?_) rfl (by kernel_rfl) (by kernel_rfl) (by kernel_rfl) (by kernel_rfl) (by kernel_rfl) (by kernel_rfl) (fun _ _ _ h => h) (Or.inl ⟨by kernel_rfl, ?_⟩) ?_
        rotate_left
        · (intro wS hwS; obtain ⟨hcS, hfS, hhS⟩ := bcell hwS; go_simp; try (first | (with_reducible rfl) | rw [if_pos (by omega)] | rw [if_neg (by omega)]))
        try simp only [Act.put, List.getElem_toArray, List.getElem_cons_succ, List.getElem_cons_zero, List.setIfInBounds_toArray, List.set_cons_zero, List.set_cons_succ]
        refine stage_read (i := 4) (v := ?_) rfl (by kernel_rfl) (by kernel_rfl) (by kernel_rfl) (by kernel_rfl) (by kernel_rfl) (by kernel_rfl) (fun _ _ _ h => h) (Or.inl ⟨by kernel_rfl, ?_⟩) ?_
        rotate_left
        · (intro wS hwS; obtain ⟨hcS, hfS, hhS⟩ := bcell hwS; go_simp; try (first | (with_reducible rfl) | rw [if_pos (by omega)] | rw [if_neg (by omega)]))
        try simp only [Act.put, List.getElem_toArray, List.getElem_cons_succ, List.getElem_cons_zero, List.setIfInBounds_toArray, List.set_cons_zero, List.set_cons_succ]
        refine stage_read (i := 5) (v := ?_) rfl (by kernel_rfl) (by kernel_rfl) (by kernel_rfl) (by kernel_rfl) (by kernel_rfl) (by kernel_rfl) (fun _ _ _ h => h) (Or.inl ⟨by kernel_rfl, ?_⟩) ?_
        rotate_left
        · (intro wS hwS; obtain ⟨hcS, hfS, hhS⟩ := bcell hwS; go_simp; try (first | (with_reducible rfl) | rw [if_pos (by omega)] | rw [if_neg (by omega)]))
        try simp only [Act.put, List.getElem_toArray, List.getElem_cons_succ, List.getElem_cons_zero, List.setIfInBounds_toArray, List.set_cons_zero, List.set_cons_succ]
        refine stage_read (i := 6) (v := ?_) rfl (by kernel_rfl) (by kernel_rfl) (by kernel_rfl) (by kernel_rfl) (by kernel_rfl) (by kernel_rfl) (fun _ _ _ h => h) (Or.inl ⟨by kernel_rfl, ?_⟩) ?_
        rotate_left
        · (intro wS hwS; obtain ⟨hcS, hfS, hhS⟩ := bcell hwS; go_simp; try (first | (with_reducible rfl) | rw [if_pos (by omega)] | rw [if_neg (by omega)]))
        try simp only [Act.put, List.getElem_toArray, List.getElem_cons_succ, List.getElem_cons_zero, List.setIfInBounds_toArray, List.set_cons_zero, List.set_cons_succ]
        refine stage_read (i := 7) (v := ?_) rfl (by kernel_rfl) (by kernel_rfl) (by kernel_rfl) (by kernel_rfl) (by kernel_rfl) (by kernel_rfl) (fun _ _ _ h => h) (Or.inl ⟨by kernel_rfl, ?_⟩) ?_
        rotate_left
        · (intro wS hwS; obtain ⟨hcS, hfS, hhS⟩ := bcell hwS; go_simp; try (first | (with_reducible rfl) | rw [if_pos (by omega)] | rw [if_neg (by omega)]))
        try simp only [Act.put, List.getElem_toArray, List.getElem_cons_succ, List.getElem_cons_zero, List.setIfInBounds_toArray, List.set_cons_zero, List.set_cons_succ]
        refine stage_read (i := 8) (v := ?_) rfl (by kernel_rfl) (by kernel_rfl) (by kernel_rfl) (by kernel_rfl) (by kernel_rfl) (by kernel_rfl) (fun _ _ _ h => h) (Or.inl ⟨by kernel_rfl, ?_⟩) ?_
        rotate_left
        · (intro wS hwS; obtain ⟨hcS, hfS, hhS⟩ := bcell hwS; go_simp; try (first | (with_reducible rfl) | rw [if_pos (by omega)] | rw [if_neg (by omega)]))
        try simp only [Act.put, List.getElem_toArray, List.getElem_cons_succ, List.getElem_cons_zero, List.setIfInBounds_toArray, List.set_cons_zero, List.set_cons_succ]
        refine stage_one 9 (by kernel_rfl) rfl (by kernel_rfl) (fun K hK => ?_)
        go_simp
        refine hK.out _ _ (hbn) ?_
        clear hK K
        try simp only [Act.put, List.getElem_toArray, List.getElem_cons_succ, List.getElem_cons_zero, List.setIfInBounds_toArray, List.set_cons_zero, List.set_cons_succ]
        clear hbn y0 y1 y2 yf l6 h6
        refine stage_end (by kernel_rfl) rfl (fun K hK => ?_)
        rw [if_pos (by kernel_rfl)]
        obtain ⟨i0, hi0, hz0, hz1', hz2'⟩ := info_parts info_rfile
        refine oper_app _ (.tmp 39) (.tmp 48) 46 rfl w.heap.size 52 i0 _ 3 40 Try.underlying46 hi0 hz0 hz1' hz2' rfl (by omega) A1 k c1 _ rfl HO2.out _ _ 1 1 _ rfl HN.out (by simp [Value.oneCell']) (by omega) (by simp only [maxLen]; omega) hsn ?_
        intro A3 c3 w5 hT5 hG5 hl5 _
        have hb5 := HB2.out.trans (below_of_app HO2.out hG5 hsn)
        refine hK.out _ _ ?_
        clear hK K
        try simp only [Act.put, List.getElem_toArray, List.getElem_cons_succ, List.getElem_cons_zero, List.setIfInBounds_toArray, List.set_cons_zero, List.set_cons_succ]
        first | refine stage 1000000 ?_ | skip
        refine stage_read (i := 11) (v := ?_) rfl (by kernel_rfl) (by kernel_rfl) (by kernel_rfl) (by kernel_rfl) (by kernel_rfl) (by kernel_rfl) (fun _ _ _ h => h) (Or.inl ⟨by kernel_rfl, ?_⟩) ?_
        rotate_left
        · (intro wS hwS; obtain ⟨hcS, hfS, hhS⟩ := bcell hwS; go_simp; try (first | (with_reducible rfl) | rw [if_pos (by omega)] | rw [if_neg (by omega)]))
        try simp only [Act.put, List.getElem_toArray, List.getElem_cons_succ, List.getElem_cons_zero, List.setIfInBounds_toArray, List.set_cons_zero, List.set_cons_succ]
        first | refine wpAnyT_done (by kernel_rfl) ?_ _ | refine wpAny_done (by kernel_rfl) ?_ _
        have HFO := Lib.hid (show OwnRF w5 w.heap.size A3 (k + 1) c3 ((crashF ks 0 l).take (k + 1)) from by
          unfold OwnRF
          rw [HCS.out, List.flatMap_append]
          exact hT5)
        have HFB := Lib.hid hb5
        clear hT5 hG5 hl5 hb5 i0 hi0 hz0 hz1' hz2' HN HO HO2 HB HB2 hsn
        go_wp2_with fail
        go_roundw
        case rel => exact ⟨k + 1, c3, A3, by go_num, rfl, by omega, HFO.out, HFB.out⟩
        case measure => simp [intOf]; omega
      ·
        have hk2 : ¬ k < ks.length := by omega
        rw [dif_neg hk2] at hm0
        have hSm : m = S := by omega
        subst hSm
        go_upto_region 7 with fail
        clear y0 y1 y2 yf
        refine region_any (by kernel_rfl) ?_
        change wpAny _ _ _ _ _ _ _ (World.drew _)
        replace h6 := h6.drew
        have HO := Lib.hid (show OwnRF (World.drew w3) w.heap.size A1 k c1 ((crashF ks 0 l).take k) from HO.out)
        have HB := Lib.hid HB.out.drew
        replace hz3 : w.heap.size ≤ (World.drew w3).heap.size := hz3
        generalize World.drew _ = w4 at *
        obtain ⟨⟨y0, y1, y2⟩, yf⟩ := at3 h6
        have l6 := h6.lt
        have hbn := (one_at w4 52 [.string fk, .string ⟨(fb.take m).toArray⟩, .int .i64 (m : Int)]).2
        have HN := Lib.hid (Rd.lit (w := w4) (t := 52) (n := 1) (cs := [.string fk, .string ⟨(fb.take m).toArray⟩, .int .i64 (m : Int)]) rfl (by simp [maxLen]) (by omega : 0 < 3))
        have HO2 := Lib.hid (HO.out.step hbn)
        have HB2 := Lib.hid (chain HB.out hbn)
        have hsn := Nat.le_trans hz3 hbn.size
        refine stage 10 ?_
        refine stage_read (i := 0) (v := ?_) rfl (by kernel_rfl) (by kernel_rfl) (by kernel_rfl) (by kernel_rfl) (by kernel_rfl) (by kernel_rfl) (fun _ _ _ h => h) (Or.inl ⟨by kernel_rfl, ?_⟩) ?_
        rotate_left
        · (intro wS hwS; obtain ⟨hcS, hfS, hhS⟩ := bcell hwS; go_simp; try (first | (with_reducible rfl) | rw [if_pos (by omega)] | rw [if_neg (by omega)]))
        try simp only [Act.put, List.getElem_toArray, List.getElem_cons_succ, List.getElem_cons_zero, List.setIfInBounds_toArray, List.set_cons_zero, List.set_cons_succ]
        refine stage_read (i := 1) (v := ?_) rfl (by kernel_rfl) (by kernel_rfl) (by kernel_rfl) (by kernel_rfl) (by kernel_rfl) (by kernel_rfl) (fun _ _ _ h => h) (Or.inl ⟨by kernel_rfl, ?_⟩) ?_
        rotate_left
        · (intro wS hwS; obtain ⟨hcS, hfS, hhS⟩ := bcell hwS; go_simp; try (first | (with_reducible rfl) | rw [if_pos (by omega)] | rw [if_neg (by omega)]))
        try simp only [Act.put, List.getElem_toArray, List.getElem_cons_succ, List.getElem_cons_zero, List.setIfInBounds_toArray, List.set_cons_zero, List.set_cons_succ]
        refine stage_read (i := 2) (v := ?_) rfl (by kernel_rfl) (by kernel_rfl) (by kernel_rfl) (by kernel_rfl) (by kernel_rfl) (by kernel_rfl) (fun _ _ _ h => h) (Or.inl ⟨by kernel_rfl, ?_⟩) ?_
        rotate_left
        · (intro wS hwS; obtain ⟨hcS, hfS, hhS⟩ := bcell hwS; go_simp; try (first | (with_reducible rfl) | rw [if_pos (by omega)] | rw [if_neg (by omega)]))
        try simp only [Act.put, List.getElem_toArray, List.getElem_cons_succ, List.getElem_cons_zero, List.setIfInBounds_toArray, List.set_cons_zero, List.set_cons_succ]
        refine stage_read (i := 3) (v := ?_) rfl (by kernel_rfl) (by kernel_rfl) (by kernel_rfl) (by kernel_rfl) (by kernel_rfl) (by kernel_rfl) (fun _ _ _ h => h) (Or.inl ⟨by kernel_rfl, ?_⟩) ?_
        rotate_left
        · (intro wS hwS; obtain ⟨hcS, hfS, hhS⟩ := bcell hwS; go_simp; try (first | (with_reducible rfl) | rw [if_pos (by omega)] | rw [if_neg (by omega)]))
        try simp only [Act.put, List.getElem_toArray, List.getElem_cons_succ, List.getElem_cons_zero, List.setIfInBounds_toArray, List.set_cons_zero, List.set_cons_succ]
        refine stage_read (i := 4) (v := ?_) rfl (by kernel_rfl) (by kernel_rfl) (by kernel_rfl) (by kernel_rfl) (by kernel_rfl) (by kernel_rfl) (fun _ _ _ h => h) (Or.inl ⟨by kernel_rfl, ?_⟩) ?_
        rotate_left
        · (intro wS hwS; obtain ⟨hcS, hfS, hhS⟩ := bcell hwS; go_simp; try (first | (with_reducible rfl) | rw [if_pos (by omega)] | rw [if_neg (by omega)]))
        try simp only [Act.put, List.getElem_toArray, List.getElem_cons_succ, List.getElem_cons_zero, List.setIfInBounds_toArray, List.set_cons_zero, List.set_cons_succ]
        refine stage_read (i := 5) (v := ?_) rfl (by kernel_rfl) (by kernel_rfl) (by kernel_rfl) (by kernel_rfl) (by kernel_rfl) (by kernel_rfl) (fun _ _ _ h => h) (Or.inl ⟨by kernel_rfl, ?_⟩) ?_
        rotate_left
        · (intro wS hwS; obtain ⟨hcS, hfS, hhS⟩ := bcell hwS; go_simp; try (first | (with_reducible rfl) | rw [if_pos (by omega)] | rw [if_neg (by omega)]))
        try simp only [Act.put, List.getElem_toArray, List.getElem_cons_succ, List.getElem_cons_zero, List.setIfInBounds_toArray, List.set_cons_zero, List.set_cons_succ]
        refine stage_read (i := 6) (v := ?_) rfl (by kernel_rfl) (by kernel_rfl) (by kernel_rfl) (by kernel_rfl) (by kernel_rfl) (by kernel_rfl) (fun _ _ _ h => h) (Or.inl ⟨by kernel_rfl, ?_⟩) ?_
        rotate_left
        · (intro wS hwS; obtain ⟨hcS, hfS, hhS⟩ := bcell hwS; go_simp; try (first | (with_reducible rfl) | rw [if_pos (by omega)] | rw [if_neg (by omega)]))
        try simp only [Act.put, List.getElem_toArray, List.getElem_cons_succ, List.getElem_cons_zero, List.setIfInBounds_toArray, List.set_cons_zero, List.set_cons_succ]
        refine stage_read (i := 7) (v := ?_) rfl (by kernel_rfl) (by kernel_rfl) (by kernel_rfl) (by kernel_rfl) (by kernel_rfl) (by kernel_rfl) (fun _ _ _ h => h) (Or.inl ⟨by kernel_rfl, ?_⟩) ?_
        rotate_left
        · (intro wS hwS; obtain ⟨hcS, hfS, hhS⟩ := bcell hwS; go_simp; try (first | (with_reducible rfl) | rw [if_pos (by omega)] | rw [if_neg (by omega)]))
        try simp only [Act.put, List.getElem_toArray, List.getElem_cons_succ, List.getElem_cons_zero, List.setIfInBounds_toArray, List.set_cons_zero, List.set_cons_succ]
        refine stage_read (i := 8) (v := ?_) rfl (by kernel_rfl) (by kernel_rfl) (by kernel_rfl) (by kernel_rfl) (by kernel_rfl) (by kernel_rfl) (fun _ _ _ h => h) (Or.inl ⟨by kernel_rfl, ?_⟩) ?_
        rotate_left
        · (intro wS hwS; obtain ⟨hcS, hfS, hhS⟩ := bcell hwS; go_simp; try (first | (with_reducible rfl) | rw [if_pos (by omega)] | rw [if_neg (by omega)]))
        try simp only [Act.put, List.getElem_toArray, List.getElem_cons_succ, List.getElem_cons_zero, List.setIfInBounds_toArray, List.set_cons_zero, List.set_cons_succ]
        refine stage_one 9 (by kernel_rfl) rfl (by kernel_rfl) (fun K hK => ?_)
        go_simp
        refine hK.out _ _ (hbn) ?_
        clear hK K
        try simp only [Act.put, List.getElem_toArray, List.getElem_cons_succ, List.getElem_cons_zero, List.setIfInBounds_toArray, List.set_cons_zero, List.set_cons_succ]
        clear hbn y0 y1 y2 yf l6 h6
        refine stage_end (by kernel_rfl) rfl (fun K hK => ?_)
        rw [if_pos (by kernel_rfl)]
        obtain ⟨i0, hi0, hz0, hz1', hz2'⟩ := info_parts info_rfile
        refine oper_app _ (.tmp 39) (.tmp 48) 46 rfl w.heap.size 52 i0 _ 3 40 Try.underlying46 hi0 hz0 hz1' hz2' rfl (by omega) A1 k c1 _ rfl HO2.out _ _ 1 1 _ rfl HN.out (by simp [Value.oneCell']) (by omega) (by simp only [maxLen]; omega) hsn ?_
        intro A3 c3 w5 hT5 hG5 hl5 _
        have hb5 := HB2.out.trans (below_of_app HO2.out hG5 hsn)
        refine hK.out _ _ ?_
        clear hK K
        try simp only [Act.put, List.getElem_toArray, List.getElem_cons_succ, List.getElem_cons_zero, List.setIfInBounds_toArray, List.set_cons_zero, List.set_cons_succ]
        first | refine stage 1000000 ?_ | skip
        refine stage_read (i := 11) (v := ?_) rfl (by kernel_rfl) (by kernel_rfl) (by kernel_rfl) (by kernel_rfl) (by kernel_rfl) (by kernel_rfl) (fun _ _ _ h => h) (Or.inl ⟨by kernel_rfl, ?_⟩) ?_
        rotate_left
        · (intro wS hwS; obtain ⟨hcS, hfS, hhS⟩ := bcell hwS; go_simp; try (first | (with_reducible rfl) | rw [if_pos (by omega)] | rw [if_neg (by omega)]))
        try simp only [Act.put, List.getElem_toArray, List.getElem_cons_succ, List.getElem_cons_zero, List.setIfInBounds_toArray, List.set_cons_zero, List.set_cons_succ]
        first | refine wpAnyT_done (by kernel_rfl) ?_ _ | refine wpAny_done (by kernel_rfl) ?_ _
        have HFO := Lib.hid (show OwnRF w5 w.heap.size A3 (k + 1) c3 ((crashF ks 0 l).take (k + 1)) from by
          unfold OwnRF
          rw [HCS.out, List.flatMap_append]
          exact hT5)
        have HFB := Lib.hid hb5
        clear hT5 hG5 hl5 hb5 i0 hi0 hz0 hz1' hz2' HN HO HO2 HB HB2 hsn
        go_wp2_with fail
        go_roundw
        case rel => exact ⟨k + 1, c3, A3, by go_num, rfl, by omega, HFO.out, HFB.out⟩
        case measure => simp [intOf]; omega
    · obtain rfl : k = l.length := by omega
      have hcl2 := crashF_length ks 0 l
      rw [List.take_of_length_le (by omega)] at hown
      have hI := H.out.step hb
      obtain ⟨Ad, cd, hd, hod⟩ := hI.ex
      obtain ⟨⟨z0, z1, z2⟩, zf0, zf1, zf2⟩ := at3 hd
      obtain ⟨hat, hG⟩ := At.many [(0, .slice A1 l.length c1), (1, .bool false), (2, .int .i64 (-1))] hd
      dsimp only [setMany, setL, List.set] at hat hG
      obtain ⟨q, hqe⟩ : ∃ q, crashF ks 0 l = q := ⟨_, rfl⟩
      rw [hqe] at hcl2 hown
      have HQ := Lib.hid hqe
      clear hqe
      have hll : l.length = q.length := hcl2.symm
      rw [hll] at hown hat hG
      have hfin := IsRf.turn (l' := q) hd (own_lower (show World.ownsRow _ _ _ _ _ _ _ from hown) (Nat.zero_le _)) hG hat
      have HFIN := Lib.hid hfin
      have HM := Lib.hid (((Mod.refl (fun i _ => i = g) w).below hb).grown hG (fun i o _ _ e => (Option.some.inj e).symm))
      have HLL := Lib.hid hll
      clear hfin hat hI hd hod hG hown hb hll hcl2
      go_wp2_with fail
      go_end0
      exact ⟨rfl, by rw [HLL.out]; exact HM.out, by rw [HLL.out, HQ.out]; exact HFIN.out⟩
end
end Go.Proofs.Ytmoijbknjadeeaa
