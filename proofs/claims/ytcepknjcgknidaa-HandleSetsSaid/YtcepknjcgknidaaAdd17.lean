
/- Chapter 17: handle.Add, Sub. -/
import Derived.Test.YtcepknjcgknidaaSet17
import Derived.Lib.MinMax
namespace Go.Proofs.Ytcepknjcgknidaa
set_option linter.unusedVariables false
set_option linter.unusedSimpArgs false
open Go.RowKit
def HRes (w w' : World) (p : List Ct × Int) (r : Ending) : Prop :=
  ∃ A2 n2 c2, r = .returned (.tuple #[.agg #[.slice A2 n2 c2], .int .i64 p.2]) ∧ OwnC w' w.heap.size A2 n2 c2 p.1 ∧ Below w.heap.size w w'
def set17p (l : List Ct) (x : Nat) (m : Int) : List Ct × Int := if may17 l m then (set17 l x m, 0) else ([], 1)
def add17p (l : List Ct) (x : Nat) (m : Int) : List Ct × Int := if may17 l m then (if of17 l x > 65535 - m then ([], 9) else set17p l x (of17 l x + m)) else ([], 1)
def sub17p (l : List Ct) (x : Nat) (m : Int) : List Ct × Int := if may17 l m then set17p l x (max (of17 l x - m) 0) else ([], 1)
theorem hset_res (A : Option Addr) (n c : Nat) (l : List Ct) (a x : Nat) (m : Int) (w : World) (hr : RdC w w.heap.size A n c l) (hf : ∀ y ∈ l, y.b < 4294967296) (hn : n < 4096) (hx : x = a - a % 64) (hal : a < 4294967296) :
    Calls Try.prog 33 #[.agg #[.slice A n c], .int .u32 (a : Int), .int .i64 m] w fun r w' => HRes w w' (set17p l x m) r := by
  refine (hset_any A n c l a x m w hr hf hn hx hal).mono ?_
  rintro r w' ⟨A2, n2, c2, rfl, h1, h2⟩
  refine ⟨A2, n2, c2, ?_, ?_, h2⟩ <;> unfold set17p <;> cases hq : may17 l m <;> simp_all
theorem of17_bounds {l : List Ct} (x : Nat) (h : right17 l = true) : 0 ≤ of17 l x ∧ of17 l x ≤ 65535 := by
  have hh := (of_decide_eq_true h).1
  unfold of17
  cases hq : l.find? (fun y => y.b == x) with
  | none => simp
  | some y =>
    obtain ⟨_, i, hi, he, _⟩ := List.find?_eq_some_iff_getElem.1 hq
    have := hh _ hi
    unfold okC at this
    rw [getD_at hi, he] at this
    simp only
    omega
set_option maxRecDepth 100000 in
set_option maxHeartbeats 4000000 in
theorem hadd_any (A : Option Addr) (n c : Nat) (l : List Ct) (a x : Nat) (m : Int) (w : World) (hr : RdC w w.heap.size A n c l) (hf : ∀ y ∈ l, y.b < 4294967296) (hn : n < 4096) (hx : x = a - a % 64) (hal : a < 4294967296) :
    Calls Try.prog 34 #[.agg #[.slice A n c], .int .u32 (a : Int), .int .i64 m] w fun r w' => HRes w w' (add17p l x m) r := by
  have hl := RdC.len hr
  obtain ⟨h0, h1, hb⟩ := two_at w 62 [.slice A n c] 62 [.slice none 0 0]
  have HR := Lib.hid ((hr.below hb).more hb.size)
  have hma := may17_any A n c l m _ HR.out hf
  have HMA := Lib.hid hma
  have HX := Lib.hid hx
  have HF := Lib.hid hf
  clear hma hr hx hf
  cases hq : may17 l m with
  | false =>
    rw [hq] at HMA
    go_enter Try.func34, Try.ntmps34
    go_upto_region 1 with fail
    obtain ⟨x0, x1⟩ := at1 h0
    go_upto_region 2 with (with_reducible refine HMA.out.mono ?_; rintro r w2 ⟨rfl, hb2⟩)
    replace h1 := h1.below hb2
    replace hb := chain hb hb2
    clear hb2 h0 x0 x1
    obtain ⟨y0, y1⟩ := at1 h1
    go_wp2_with fail
    have hfin : Below w.heap.size w (w2.setCell ⟨w.heap.size + 1, 0, none⟩ (.slice none 0 0)) := hb.setCell (by simp) _
    obtain ⟨z0, z1⟩ := at1 (h1.set 0 (.slice none 0 0))
    exact bodyPost_ret (v := .tuple #[.agg #[.slice none 0 0], .int .i64 1]) (by simp [results, Try.results34, go_sem, z0]) rfl ⟨none, 0, 0, by simp [add17p, hq], by simp only [add17p, hq]; exact OwnC.nil, hfin⟩
  | true =>
    have hq2 := hq
    unfold may17 at hq2
    rw [Bool.and_eq_true] at hq2
    obtain ⟨hri, hm⟩ := hq2
    have hm := of_decide_eq_true hm
    rw [hq] at HMA
    obtain ⟨hof0, hof1⟩ := of17_bounds x hri
    have HPQ := Lib.hid hq
    go_enter Try.func34, Try.ntmps34
    go_upto_region 1 with fail
    generalize hW1 : World.alloc (World.alloc w _) _ = w1 at *
    have hsz : w1.heap.size = w.heap.size + 2 := by rw [← hW1]; simp
    clear hW1
    obtain ⟨x0, x1⟩ := at1 h0
    go_upto_region 3 with (with_reducible refine HMA.out.mono ?_; rintro r w2 ⟨rfl, hb2⟩)
    replace h1 := h1.below hb2
    replace h0 := h0.below hb2
    have HR := Lib.hid ((HR.out.below hb2).more hb2.size)
    replace hsz : w.heap.size + 2 ≤ w2.heap.size := by have := hb2.size; omega
    replace hb := chain hb hb2
    clear hb2 x0 x1 HMA hq
    obtain ⟨x0, x1⟩ := at1 h0
    have HOF := Lib.hid (of17_any A n c l a x _ HR.out hri (by omega) HX.out hal)
    generalize hv : of17 l x = v at *
    by_cases hov : v > 65535 - m
    · go_upto_region 4 with (with_reducible refine HOF.out.mono ?_; rintro r w3 ⟨rfl, hb3⟩)
      replace h1 := h1.below hb3
      replace hb := chain hb hb3
      clear hb3 h0 x0 x1
      obtain ⟨y0, y1⟩ := at1 h1
      go_wp2_with fail
      have hfin : Below w.heap.size w (w3.setCell ⟨w.heap.size + 1, 0, none⟩ (.slice none 0 0)) := hb.setCell (by simp) _
      obtain ⟨z0, z1⟩ := at1 (h1.set 0 (.slice none 0 0))
      exact bodyPost_ret (v := .tuple #[.agg #[.slice none 0 0], .int .i64 9]) (by simp [results, Try.results34, go_sem, z0]) rfl ⟨none, 0, 0, by simp [add17p, HPQ.out, hv, hov], by simp only [add17p, HPQ.out, hv, hov, if_true]; exact OwnC.nil, hfin⟩
    · go_upto_region 5 with (with_reducible refine HOF.out.mono ?_; rintro r w3 ⟨rfl, hb3⟩)
      replace h1 := h1.below hb3
      replace h0 := h0.below hb3
      have HR := Lib.hid ((HR.out.below hb3).more hb3.size)
      replace hsz : w.heap.size + 2 ≤ w3.heap.size := by have := hb3.size; omega
      replace hb := chain hb hb3
      clear hb3 x0 x1 HOF
      refine region_any (by kernel_rfl) ?_
      change wpAny _ _ _ _ _ _ _ (World.drew _)
      replace h0 := h0.drew
      replace h1 := h1.drew
      replace hb := hb.drew
      replace hsz : w.heap.size + 2 ≤ w3.drew.heap.size := hsz
      have HR := Lib.hid (show RdC w3.drew w3.drew.heap.size A n c l from HR.out.drewN 1)
      generalize World.drew _ = w4 at *
      obtain ⟨x0, x1⟩ := at1 h0
      have l0 := h0.lt
      have HOF := Lib.hid (fun (w2 : World) (h : Below w4.heap.size w4 w2) => of17_any A n c l a x w2 ((HR.out.below h).more h.size) hri (by omega) HX.out hal)
      have HSET := Lib.hid (fun (w2 : World) (h : Below w4.heap.size w4 w2) => hset_res A n c l a x (v + m) w2 ((HR.out.below h).more h.size) HF.out (by omega) HX.out hal)
      rw [hv] at HOF
      have hw1 : IntKind.i64.wrap (v + m) = v + m := IntWalk.i64_in _ (by omega)
      refine stage 10 ?_
      refine stage_read (i := 0) (v := ?_) rfl (by kernel_rfl) (by kernel_rfl) (by kernel_rfl) (by kernel_rfl) (by kernel_rfl) (by kernel_rfl) (fun _ _ _ h => h) (Or.inl ⟨by kernel_rfl, ?_⟩) ?_
      rotate_left
      · (intro wS hwS; obtain ⟨hcS, hfS, hhS⟩ := bcell hwS; go_simp; try (first | (with_reducible rfl) | rw [if_pos (by omega)] | rw [if_neg (by omega)]))
      try simp only [Act.put, List.getElem_toArray, List.getElem_cons_succ, List.getElem_cons_zero, List.setIfInBounds_toArray, List.set_cons_zero, List.set_cons_succ]
      refine stage_read (i := 1) (v := ?_) rfl (by kernel_rfl) (by kernel_rfl) (by kernel_rfl) (by kernel_rfl) (by kernel_rfl) (by kernel_rfl) (fun _ _ _ h => h) (Or.inl ⟨by kernel_rfl, ?_⟩) ?_
      rotate_left
      · (intro wS hwS; obtain ⟨hcS, hfS, hhS⟩ := bcell hwS; go_simp; try (first | (with_reducible rfl) | rw [if_pos (by omega)] | rw [if_neg (by omega)]))
      try simp only [Act.put, List.getElem_toArray, List.getElem_cons_succ, List.getElem_cons_zero, List.setIfInBounds_toArray, List.set_cons_zero, List.set_cons_succ]
      refine stage_read (i := 2) (v := ?_) rfl (by kernel_rfl) (by kernel_rfl) (by kernel_rfl) (by kernel_rfl) (by kernel_rfl) (by kernel_rfl) (fun _ _ _ h => h) (Or.inl ⟨by kernel_rfl, ?_⟩) ?_
      rotate_left
      · (intro wS hwS; obtain ⟨hcS, hfS, hhS⟩ := bcell hwS; go_simp; try (first | (with_reducible rfl) | rw [if_pos (by omega)] | rw [if_neg (by omega)]))
      try simp only [Act.put, List.getElem_toArray, List.getElem_cons_succ, List.getElem_cons_zero, List.setIfInBounds_toArray, List.set_cons_zero, List.set_cons_succ]
      refine stage_read (i := 3) (v := ?_) rfl (by kernel_rfl) (by kernel_rfl) (by kernel_rfl) (by kernel_rfl) (by kernel_rfl) (by kernel_rfl) (fun _ _ _ h => h) (Or.inl ⟨by kernel_rfl, ?_⟩) ?_
      rotate_left
      · (intro wS hwS; obtain ⟨hcS, hfS, hhS⟩ := bcell hwS; go_simp; try (first | (with_reducible rfl) | rw [if_pos (by omega)] | rw [if_neg (by omega)]))
      try simp only [Act.put, List.getElem_toArray, List.getElem_cons_succ, List.getElem_cons_zero, List.setIfInBounds_toArray, List.set_cons_zero, List.set_cons_succ]
      refine stage_read (i := 5) (v := ?_) rfl (by kernel_rfl) (by kernel_rfl) (by kernel_rfl) (by kernel_rfl) (by kernel_rfl) (by kernel_rfl) (fun _ _ _ h => h) (Or.inl ⟨by kernel_rfl, ?_⟩) ?_
      rotate_left
      · (intro wS hwS; obtain ⟨hcS, hfS, hhS⟩ := bcell hwS; go_simp; try (first | (with_reducible rfl) | rw [if_pos (by omega)] | rw [if_neg (by omega)]))
      try simp only [Act.put, List.getElem_toArray, List.getElem_cons_succ, List.getElem_cons_zero, List.setIfInBounds_toArray, List.set_cons_zero, List.set_cons_succ]
      refine stage_one 4 (by kernel_rfl) rfl (by kernel_rfl) (fun K hK => ?_)
      go_simp
      refine (HOF.out _ (Below.refl _ _)).mono ?_
      rintro r w5 ⟨rfl, hb5⟩
      refine hK.out _ _ (hb5) ?_
      clear hK K
      try simp only [Act.put, List.getElem_toArray, List.getElem_cons_succ, List.getElem_cons_zero, List.setIfInBounds_toArray, List.set_cons_zero, List.set_cons_succ]
      replace h1 := h1.below hb5
      replace h0 := h0.below hb5
      replace hsz : w.heap.size + 2 ≤ w5.heap.size := by have := hb5.size; omega
      replace hb := chain hb hb5
      clear x0 x1 l0
      obtain ⟨x0, x1⟩ := at1 h0
      have l0 := h0.lt
      refine stage_read (i := 6) (v := ?_) rfl (by kernel_rfl) (by kernel_rfl) (by kernel_rfl) (by kernel_rfl) (by kernel_rfl) (by kernel_rfl) (fun _ _ _ h => h) (Or.inl ⟨by kernel_rfl, ?_⟩) ?_
      rotate_left
      · (intro wS hwS; obtain ⟨hcS, hfS, hhS⟩ := bcell hwS; go_simp; try (first | (with_reducible rfl) | rw [if_pos (by omega)] | rw [if_neg (by omega)]))
      try simp only [Act.put, List.getElem_toArray, List.getElem_cons_succ, List.getElem_cons_zero, List.setIfInBounds_toArray, List.set_cons_zero, List.set_cons_succ]
      refine stage_one 7 (by kernel_rfl) rfl (by kernel_rfl) (fun K hK => ?_)
      go_simp
      refine (HSET.out _ hb5).mono ?_
      rintro r w6 ⟨A2, n2, c2, rfl, hown, hb6⟩
      refine hK.out _ _ (hb6) ?_
      clear hK K
      try simp only [Act.put, List.getElem_toArray, List.getElem_cons_succ, List.getElem_cons_zero, List.setIfInBounds_toArray, List.set_cons_zero, List.set_cons_succ]
      replace h1 := h1.below hb6
      have hw5 := hsz
      replace hsz : w.heap.size + 2 ≤ w6.heap.size := by have := hb6.size; omega
      replace hb := chain hb hb6
      clear x0 x1 l0 h0
      obtain ⟨y0, y1⟩ := at1 h1
      refine stage_read (i := 8) (v := ?_) rfl (by kernel_rfl) (by kernel_rfl) (by kernel_rfl) (by kernel_rfl) (by kernel_rfl) (by kernel_rfl) (fun _ _ _ h => h) (Or.inl ⟨by kernel_rfl, ?_⟩) ?_
      rotate_left
      · (intro wS hwS; obtain ⟨hcS, hfS, hhS⟩ := bcell hwS; go_simp; try (first | (with_reducible rfl) | rw [if_pos (by omega)] | rw [if_neg (by omega)]))
      try simp only [Act.put, List.getElem_toArray, List.getElem_cons_succ, List.getElem_cons_zero, List.setIfInBounds_toArray, List.set_cons_zero, List.set_cons_succ]
      refine stage_read (i := 9) (v := ?_) rfl (by kernel_rfl) (by kernel_rfl) (by kernel_rfl) (by kernel_rfl) (by kernel_rfl) (by kernel_rfl) (fun _ _ _ h => h) (Or.inl ⟨by kernel_rfl, ?_⟩) ?_
      rotate_left
      · (intro wS hwS; obtain ⟨hcS, hfS, hhS⟩ := bcell hwS; go_simp; try (first | (with_reducible rfl) | rw [if_pos (by omega)] | rw [if_neg (by omega)]))
      try simp only [Act.put, List.getElem_toArray, List.getElem_cons_succ, List.getElem_cons_zero, List.setIfInBounds_toArray, List.set_cons_zero, List.set_cons_succ]
      refine stage_end (by kernel_rfl) rfl (fun K hK => ?_)
      go_simp
      refine hK.out _ _ ?_
      clear hK K
      try simp only [Act.put, List.getElem_toArray, List.getElem_cons_succ, List.getElem_cons_zero, List.setIfInBounds_toArray, List.set_cons_zero, List.set_cons_succ]
      first | refine stage 1000000 ?_ | skip
      refine stage_read (i := 11) (v := ?_) rfl (by kernel_rfl) (by kernel_rfl) (by kernel_rfl) (by kernel_rfl) (by kernel_rfl) (by kernel_rfl) (fun _ _ _ h => h) (Or.inl ⟨by kernel_rfl, ?_⟩) ?_
      rotate_left
      · (intro wS hwS; obtain ⟨hcS, hfS, hhS⟩ := bcell hwS; go_simp; try (first | (with_reducible rfl) | rw [if_pos (by omega)] | rw [if_neg (by omega)]))
      try simp only [Act.put, List.getElem_toArray, List.getElem_cons_succ, List.getElem_cons_zero, List.setIfInBounds_toArray, List.set_cons_zero, List.set_cons_succ]
      first | refine wpAnyT_done (by kernel_rfl) ?_ _ | refine wpAny_done (by kernel_rfl) ?_ _
      go_wp2_with fail
      have hfin : Below w.heap.size w (w6.setCell ⟨w.heap.size + 1, 0, none⟩ (.slice A2 n2 c2)) := hb.setCell (by simp) _
      obtain ⟨z0, z1⟩ := at1 (h1.set 0 (.slice A2 n2 c2))
      have e9 : add17p l x m = set17p l x (v + m) := by simp only [add17p, HPQ.out, hv, if_true]; exact if_neg (by omega)
      rw [e9]
      refine bodyPost_ret (v := .tuple #[.agg #[.slice A2 n2 c2], .int .i64 (set17p l x (v + m)).2]) (by simp [results, Try.results34, go_sem, z0]) rfl ⟨_, _, _, rfl, ?_, hfin⟩
      exact OwnC.lower17 (ownsRow_setCell_below hown (a := ⟨w.heap.size + 1, 0, none⟩) (by simp; omega) (Value.slice A2 n2 c2)) (by omega)
set_option maxRecDepth 100000 in
set_option maxHeartbeats 4000000 in
theorem hsub_any (A : Option Addr) (n c : Nat) (l : List Ct) (a x : Nat) (m : Int) (w : World) (hr : RdC w w.heap.size A n c l) (hf : ∀ y ∈ l, y.b < 4294967296) (hn : n < 4096) (hx : x = a - a % 64) (hal : a < 4294967296) :
    Calls Try.prog 35 #[.agg #[.slice A n c], .int .u32 (a : Int), .int .i64 m] w fun r w' => HRes w w' (sub17p l x m) r := by
  have hl := RdC.len hr
  obtain ⟨h0, h1, hb⟩ := two_at w 62 [.slice A n c] 62 [.slice none 0 0]
  have HR := Lib.hid ((hr.below hb).more hb.size)
  have hma := may17_any A n c l m _ HR.out hf
  have HMA := Lib.hid hma
  have HX := Lib.hid hx
  have HF := Lib.hid hf
  clear hma hr hx hf
  cases hq : may17 l m with
  | false =>
    rw [hq] at HMA
    go_enter Try.func35, Try.ntmps35
    go_upto_region 1 with fail
    obtain ⟨x0, x1⟩ := at1 h0
    go_upto_region 2 with (with_reducible refine HMA.out.mono ?_; rintro r w2 ⟨rfl, hb2⟩)
    replace h1 := h1.below hb2
    replace hb := chain hb hb2
    clear hb2 h0 x0 x1
    obtain ⟨y0, y1⟩ := at1 h1
    go_wp2_with fail
    have hfin : Below w.heap.size w (w2.setCell ⟨w.heap.size + 1, 0, none⟩ (.slice none 0 0)) := hb.setCell (by simp) _
    obtain ⟨z0, z1⟩ := at1 (h1.set 0 (.slice none 0 0))
    exact bodyPost_ret (v := .tuple #[.agg #[.slice none 0 0], .int .i64 1]) (by simp [results, Try.results35, go_sem, z0]) rfl ⟨none, 0, 0, by simp [sub17p, hq], by simp only [sub17p, hq]; exact OwnC.nil, hfin⟩
  | true =>
    have hq2 := hq
    unfold may17 at hq2
    rw [Bool.and_eq_true] at hq2
    obtain ⟨hri, hm⟩ := hq2
    have hm := of_decide_eq_true hm
    rw [hq] at HMA
    obtain ⟨hof0, hof1⟩ := of17_bounds x hri
    have HPQ := Lib.hid hq
    go_enter Try.func35, Try.ntmps35
    go_upto_region 1 with fail
    generalize hW1 : World.alloc (World.alloc w _) _ = w1 at *
    have hsz : w1.heap.size = w.heap.size + 2 := by rw [← hW1]; simp
    clear hW1
    obtain ⟨x0, x1⟩ := at1 h0
    go_upto_region 3 with (with_reducible refine HMA.out.mono ?_; rintro r w2 ⟨rfl, hb2⟩)
    replace h1 := h1.below hb2
    replace h0 := h0.below hb2
    have HR := Lib.hid ((HR.out.below hb2).more hb2.size)
    replace hsz : w.heap.size + 2 ≤ w2.heap.size := by have := hb2.size; omega
    replace hb := chain hb hb2
    clear hb2 x0 x1 HMA hq
    generalize hv : of17 l x = v at *
    refine region_any (by kernel_rfl) ?_
    change wpAny _ _ _ _ _ _ _ (World.drew _)
    replace h0 := h0.drew
    replace h1 := h1.drew
    replace hb := hb.drew
    replace hsz : w.heap.size + 2 ≤ w2.drew.heap.size := hsz
    have HR := Lib.hid (show RdC w2.drew w2.drew.heap.size A n c l from HR.out.drewN 1)
    generalize World.drew _ = w4 at *
    obtain ⟨x0, x1⟩ := at1 h0
    have l0 := h0.lt
    obtain ⟨u, hu⟩ : ∃ u : Int, max (v - m) 0 = u := ⟨_, rfl⟩
    have HOF := Lib.hid (fun (w2 : World) (h : Below w4.heap.size w4 w2) => of17_any A n c l a x w2 ((HR.out.below h).more h.size) hri (by omega) HX.out hal)
    have HSET := Lib.hid (fun (w2 : World) (h : Below w4.heap.size w4 w2) => hset_res A n c l a x u w2 ((HR.out.below h).more h.size) HF.out (by omega) HX.out hal)
    rw [hv] at HOF
    have hw1 : IntKind.i64.wrap (v - m) = v - m := IntWalk.i64_in _ (by omega)
    refine stage 11 ?_
    refine stage_read (i := 0) (v := ?_) rfl (by kernel_rfl) (by kernel_rfl) (by kernel_rfl) (by kernel_rfl) (by kernel_rfl) (by kernel_rfl) (fun _ _ _ h => h) (Or.inl ⟨by kernel_rfl, ?_⟩) ?_
    rotate_left
    · (intro wS hwS; obtain ⟨hcS, hfS, hhS⟩ := bcell hwS; go_simp; try (first | (with_reducible rfl) | rw [if_pos (by omega)] | rw [if_neg (by omega)]))
    try simp only [Act.put, List.getElem_toArray, List.getElem_cons_succ, List.getElem_cons_zero, List.setIfInBounds_toArray, List.set_cons_zero, List.set_cons_succ]
    refine stage_read (i := 1) (v := ?_) rfl (by kernel_rfl) (by kernel_rfl) (by kernel_rfl) (by kernel_rfl) (by kernel_rfl) (by kernel_rfl) (fun _ _ _ h => h) (Or.inl ⟨by kernel_rfl, ?_⟩) ?_
    rotate_left
    · (intro wS hwS; obtain ⟨hcS, hfS, hhS⟩ := bcell hwS; go_simp; try (first | (with_reducible rfl) | rw [if_pos (by omega)] | rw [if_neg (by omega)]))
    try simp only [Act.put, List.getElem_toArray, List.getElem_cons_succ, List.getElem_cons_zero, List.setIfInBounds_toArray, List.set_cons_zero, List.set_cons_succ]
    refine stage_read (i := 2) (v := ?_) rfl (by kernel_rfl) (by kernel_rfl) (by kernel_rfl) (by kernel_rfl) (by kernel_rfl) (by kernel_rfl) (fun _ _ _ h => h) (Or.inl ⟨by kernel_rfl, ?_⟩) ?_
    rotate_left
    · (intro wS hwS; obtain ⟨hcS, hfS, hhS⟩ := bcell hwS; go_simp; try (first | (with_reducible rfl) | rw [if_pos (by omega)] | rw [if_neg (by omega)]))
    try simp only [Act.put, List.getElem_toArray, List.getElem_cons_succ, List.getElem_cons_zero, List.setIfInBounds_toArray, List.set_cons_zero, List.set_cons_succ]
    refine stage_read (i := 3) (v := ?_) rfl (by kernel_rfl) (by kernel_rfl) (by kernel_rfl) (by kernel_rfl) (by kernel_rfl) (by kernel_rfl) (fun _ _ _ h => h) (Or.inl ⟨by kernel_rfl, ?_⟩) ?_
    rotate_left
    · (intro wS hwS; obtain ⟨hcS, hfS, hhS⟩ := bcell hwS; go_simp; try (first | (with_reducible rfl) | rw [if_pos (by omega)] | rw [if_neg (by omega)]))
    try simp only [Act.put, List.getElem_toArray, List.getElem_cons_succ, List.getElem_cons_zero, List.setIfInBounds_toArray, List.set_cons_zero, List.set_cons_succ]
    refine stage_read (i := 5) (v := ?_) rfl (by kernel_rfl) (by kernel_rfl) (by kernel_rfl) (by kernel_rfl) (by kernel_rfl) (by kernel_rfl) (fun _ _ _ h => h) (Or.inl ⟨by kernel_rfl, ?_⟩) ?_
    rotate_left
    · (intro wS hwS; obtain ⟨hcS, hfS, hhS⟩ := bcell hwS; go_simp; try (first | (with_reducible rfl) | rw [if_pos (by omega)] | rw [if_neg (by omega)]))
    try simp only [Act.put, List.getElem_toArray, List.getElem_cons_succ, List.getElem_cons_zero, List.setIfInBounds_toArray, List.set_cons_zero, List.set_cons_succ]
    refine stage_one 4 (by kernel_rfl) rfl (by kernel_rfl) (fun K hK => ?_)
    go_simp
    refine (HOF.out _ (Below.refl _ _)).mono ?_
    rintro r w5 ⟨rfl, hb5⟩
    refine hK.out _ _ (hb5) ?_
    clear hK K
    try simp only [Act.put, List.getElem_toArray, List.getElem_cons_succ, List.getElem_cons_zero, List.setIfInBounds_toArray, List.set_cons_zero, List.set_cons_succ]
    replace h1 := h1.below hb5
    replace h0 := h0.below hb5
    replace hsz : w.heap.size + 2 ≤ w5.heap.size := by have := hb5.size; omega
    replace hb := chain hb hb5
    clear x0 x1 l0
    obtain ⟨x0, x1⟩ := at1 h0
    have l0 := h0.lt
    refine stage_read (i := 6) (v := ?_) rfl (by kernel_rfl) (by kernel_rfl) (by kernel_rfl) (by kernel_rfl) (by kernel_rfl) (by kernel_rfl) (fun _ _ _ h => h) (Or.inl ⟨by kernel_rfl, ?_⟩) ?_
    rotate_left
    · (intro wS hwS; obtain ⟨hcS, hfS, hhS⟩ := bcell hwS; go_simp; try (first | (with_reducible rfl) | rw [if_pos (by omega)] | rw [if_neg (by omega)]))
    try simp only [Act.put, List.getElem_toArray, List.getElem_cons_succ, List.getElem_cons_zero, List.setIfInBounds_toArray, List.set_cons_zero, List.set_cons_succ]
    refine stage_read (i := 7) (v := ?_) rfl (by kernel_rfl) (by kernel_rfl) (by kernel_rfl) (by kernel_rfl) (by kernel_rfl) (by kernel_rfl) (fun _ _ _ h => h) (Or.inl ⟨by kernel_rfl, ?_⟩) ?_
    rotate_left
    · (intro wS hwS; obtain ⟨hcS, hfS, hhS⟩ := bcell hwS; go_simp; try (first | (with_reducible rfl) | rw [if_pos (by omega)] | rw [if_neg (by omega)]))
    try simp only [Act.put, List.getElem_toArray, List.getElem_cons_succ, List.getElem_cons_zero, List.setIfInBounds_toArray, List.set_cons_zero, List.set_cons_succ]
    refine stage_one 8 (by kernel_rfl) rfl (by kernel_rfl) (fun K hK => ?_)
    go_simp
    refine (HSET.out _ hb5).mono ?_
    rintro r w6 ⟨A2, n2, c2, rfl, hown, hb6⟩
    refine hK.out _ _ (hb6) ?_
    clear hK K
    try simp only [Act.put, List.getElem_toArray, List.getElem_cons_succ, List.getElem_cons_zero, List.setIfInBounds_toArray, List.set_cons_zero, List.set_cons_succ]
    replace h1 := h1.below hb6
    have hw5 := hsz
    replace hsz : w.heap.size + 2 ≤ w6.heap.size := by have := hb6.size; omega
    replace hb := chain hb hb6
    clear x0 x1 l0 h0
    obtain ⟨y0, y1⟩ := at1 h1
    refine stage_read (i := 9) (v := ?_) rfl (by kernel_rfl) (by kernel_rfl) (by kernel_rfl) (by kernel_rfl) (by kernel_rfl) (by kernel_rfl) (fun _ _ _ h => h) (Or.inl ⟨by kernel_rfl, ?_⟩) ?_
    rotate_left
    · (intro wS hwS; obtain ⟨hcS, hfS, hhS⟩ := bcell hwS; go_simp; try (first | (with_reducible rfl) | rw [if_pos (by omega)] | rw [if_neg (by omega)]))
    try simp only [Act.put, List.getElem_toArray, List.getElem_cons_succ, List.getElem_cons_zero, List.setIfInBounds_toArray, List.set_cons_zero, List.set_cons_succ]
    refine stage_read (i := 10) (v := ?_) rfl (by kernel_rfl) (by kernel_rfl) (by kernel_rfl) (by kernel_rfl) (by kernel_rfl) (by kernel_rfl) (fun _ _ _ h => h) (Or.inl ⟨by kernel_rfl, ?_⟩) ?_
    rotate_left
    · (intro wS hwS; obtain ⟨hcS, hfS, hhS⟩ := bcell hwS; go_simp; try (first | (with_reducible rfl) | rw [if_pos (by omega)] | rw [if_neg (by omega)]))
    try simp only [Act.put, List.getElem_toArray, List.getElem_cons_succ, List.getElem_cons_zero, List.setIfInBounds_toArray, List.set_cons_zero, List.set_cons_succ]
    refine stage_end (by kernel_rfl) rfl (fun K hK => ?_)
    go_simp
    refine hK.out _ _ ?_
    clear hK K
    try simp only [Act.put, List.getElem_toArray, List.getElem_cons_succ, List.getElem_cons_zero, List.setIfInBounds_toArray, List.set_cons_zero, List.set_cons_succ]
    first | refine stage 1000000 ?_ | skip
    refine stage_read (i := 12) (v := ?_) rfl (by kernel_rfl) (by kernel_rfl) (by kernel_rfl) (by kernel_rfl) (by kernel_rfl) (by kernel_rfl) (fun _ _ _ h => h) (Or.inl ⟨by kernel_rfl, ?_⟩) ?_
    rotate_left
    · (intro wS hwS; obtain ⟨hcS, hfS, hhS⟩ := bcell hwS; go_simp; try (first | (with_reducible rfl) | rw [if_pos (by omega)] | rw [if_neg (by omega)]))
    try simp only [Act.put, List.getElem_toArray, List.getElem_cons_succ, List.getElem_cons_zero, List.setIfInBounds_toArray, List.set_cons_zero, List.set_cons_succ]
    first | refine wpAnyT_done (by kernel_rfl) ?_ _ | refine wpAny_done (by kernel_rfl) ?_ _
    go_wp2_with fail
    have hfin : Below w.heap.size w (w6.setCell ⟨w.heap.size + 1, 0, none⟩ (.slice A2 n2 c2)) := hb.setCell (by simp) _
    obtain ⟨z0, z1⟩ := at1 (h1.set 0 (.slice A2 n2 c2))
    have e9 : sub17p l x m = set17p l x u := by simp only [sub17p, HPQ.out, hv, if_true, hu]
    rw [e9]
    refine bodyPost_ret (v := .tuple #[.agg #[.slice A2 n2 c2], .int .i64 (set17p l x u).2]) (by simp [results, Try.results35, go_sem, z0]) rfl ⟨_, _, _, rfl, ?_, hfin⟩
    exact OwnC.lower17 (ownsRow_setCell_below hown (a := ⟨w.heap.size + 1, 0, none⟩) (by simp; omega) (Value.slice A2 n2 c2)) (by omega)
end Go.Proofs.Ytcepknjcgknidaa
