
/- Chapter 10: the walk of RedoApart. -/
import Derived.Test.YtcpkaolfafeojaaRedoPutWalk
import Derived.Test.YtcpkaolfafeojaaRegion2
import Derived.WideShapes
namespace Go.Proofs.Ytcpkaolfafeojaa
set_option linter.unusedVariables false
set_option linter.unusedSimpArgs false
open Go.RowKit
theorem eff_nest {ek ev fk fv : ByteArray} {er fr : Int} {eg fg : Bool} (h : (⟨ek, ev, er, eg⟩ : Eff) ≠ ⟨fk, fv, fr, fg⟩) {α : Type} (X Y : α) :
    (if ek.toList = fk.toList then if ev.toList = fv.toList then if er = fr then if eg = fg then X else Y else Y else Y else Y) = Y := by
  have hb : ∀ {a b : ByteArray}, a.toList = b.toList → a = b := fun {a b} h => by
    rw [ByteArray.toList_eq, ByteArray.toList_eq] at h
    exact Go.WideShapes.bytes_inj h
  by_cases h1 : ek.toList = fk.toList
  · rw [if_pos h1]
    by_cases h2 : ev.toList = fv.toList
    · rw [if_pos h2]
      by_cases h3 : er = fr
      · rw [if_pos h3]
        by_cases h4 : eg = fg
        · exact absurd (by rw [hb h1, hb h2, h3, h4]) h
        · rw [if_neg h4]
      · rw [if_neg h3]
    · rw [if_neg h2]
  · rw [if_neg h1]
set_option maxRecDepth 100000 in
set_option maxHeartbeats 40000000 in
theorem redoApart_walk {e f : Eff} (w : World) (he : e.fits) (hf : f.fits) :
    Calls Try.prog 4 #[e.val, f.val] w fun x w' => x = .returned (.bool true) ∧ Below w.heap.size w w' := by
  have her : (cutE e).r < 9223372036854775808 := he.2.2.2
  have hfr : (cutE f).r < 9223372036854775808 := hf.2.2.2
  have hb0 : Below w.heap.size w ((w.alloc (.cells e.cells 54)).alloc (.cells f.cells 54)) := ((Below.refl _ _).alloc (Nat.le_refl _) _).alloc (by simp) _
  have hatf : ((w.alloc (.cells e.cells 54)).alloc (.cells f.cells 54)).heap[w.heap.size + 1]? = some (.cells f.cells 54) := by
    have := heap_alloc_new (w.alloc (.cells e.cells 54)) (.cells f.cells 54)
    simpa using this
  have hate : ((w.alloc (.cells e.cells 54)).alloc (.cells f.cells 54)).heap[w.heap.size]? = some (.cells e.cells 54) :=
    at_below (heap_alloc_new w (.cells e.cells 54)) ((Below.refl _ _).alloc (Nat.le_refl _) _)
  have hce := cut_any e
  have hcf := cut_any f
  generalize hf' : cutE f = f2 at *
  generalize he' : cutE e = e2 at *
  have hek : e2.k.size ≤ 140 := by rw [← he']; exact cutS_size _ _
  have hev : e2.v.size ≤ 100 := by rw [← he']; exact cutS_size _ _
  have hfk : f2.k.size ≤ 140 := by rw [← hf']; exact cutS_size _ _
  have hfv : f2.v.size ≤ 100 := by rw [← hf']; exact cutS_size _ _
  clear hf' hf he' he
  have hoe := ours_any e2
  have hof := ours_any f2
  have hre := rright_any e2
  have hrf := rright_any f2
  have hpe := fun w h => eput_ok e2 w h her
  have hpf := fun w h => eput_ok f2 w h hfr
  have hinj := fun h1 h2 => effL_inj e2 f2 h1 h2 her hfr
  obtain ⟨ek, ev, er, eg⟩ := e
  obtain ⟨fk, fv, fr, fg⟩ := f
  obtain ⟨ek2, ev2, er2, eg2⟩ := e2
  obtain ⟨fk2, fv2, fr2, fg2⟩ := f2
  have hlen := effL_length ⟨ek2, ev2, er2, eg2⟩
  have hlenf := effL_length ⟨fk2, fv2, fr2, fg2⟩
  unfold Eff.val Eff.cells at *
  simp only at *
  have hll : (⟨ek2, ev2, er2, eg2⟩ : Eff) = ⟨fk2, fv2, fr2, fg2⟩ → effL ⟨ek2, ev2, er2, eg2⟩ = effL ⟨fk2, fv2, fr2, fg2⟩ := fun h => by rw [h]
  generalize hLe : effL ⟨ek2, ev2, er2, eg2⟩ = Le at *
  generalize hLf : effL ⟨fk2, fv2, fr2, fg2⟩ = Lf at *
  have HCE := Lib.hid hce
  have HCF := Lib.hid hcf
  have HOE := Lib.hid hoe
  have HOF := Lib.hid hof
  have HRE := Lib.hid hre
  have HRF := Lib.hid hrf
  have HAE := Lib.hid hate
  have HAF := Lib.hid hatf
  have HB := Lib.hid hb0
  have HPE := Lib.hid hpe
  have HPF := Lib.hid hpf
  have HI := Lib.hid hinj
  have HLL := Lib.hid hll
  clear hll
  clear hce hcf hoe hof hre hrf hate hatf hb0 hpe hpf hinj hLe hLf
  go_enter Try.func4, Try.ntmps4
  go_wp2_with fail
  have hate := HAE.out
  have hatf := HAF.out
  have hb0 := HB.out
  clear HAE HAF HB
  generalize World.alloc _ _ = w0 at *
  go_wp2_with fail
  refine region_begin (fun _ => True) (by kernel_rfl) (trivial) (fun hHeld => ?_)
  have hate1 := at_below hate (Below.drew (Below.refl w0.heap.size w0))
  have hatf1 := at_below hatf (Below.drew (Below.refl w0.heap.size w0))
  have hb1 := Below.drew hb0
  generalize w0.drew = w1 at *
  clear hate hatf hb0 hHeld
  obtain ⟨k0, k1, k2, k3⟩ := cells4 hate1
  obtain ⟨m0, m1, m2, m3⟩ := cells4 hatf1
  refine region_two 0 2 (by kernel_rfl) rfl rfl (fun K hK => ?_) (fun K hK => ?_)
  · go_simp
    refine hK.out _ _ (fun _ => True) trivial (fun _ h => h) (fun hHeld => ?_)
    clear hK K hHeld
    try simp only [Act.put, List.getElem_toArray, List.getElem_cons_succ, List.getElem_cons_zero, List.setIfInBounds_toArray, List.set_cons_zero, List.set_cons_succ]
    refine region_two 1 2 (by kernel_rfl) rfl rfl (fun K hK => ?_) (fun K hK => ?_)
    · go_simp
      refine (HCE.out _).mono ?_
      rintro x wa ⟨rfl, hba⟩
      have hatea := at_below hate1 hba
      have hatfa := at_below hatf1 hba
      obtain ⟨k0, k1, k2, k3⟩ := cells4 hatea
      obtain ⟨m0, m1, m2, m3⟩ := cells4 hatfa
      refine hK.out _ _ (fun _ => True) trivial (fun _ h => h) (fun hHeld => ?_)
      clear hK K hHeld
      try simp only [Act.put, List.getElem_toArray, List.getElem_cons_succ, List.getElem_cons_zero, List.setIfInBounds_toArray, List.set_cons_zero, List.set_cons_succ]
      refine region_one 2 (by kernel_rfl) rfl (fun K hK => ?_)
      go_simp
      refine hK.out _ _ (fun _ => True) trivial (fun _ h => h) (fun hHeld => ?_)
      clear hK K hHeld
      try simp only [Act.put, List.getElem_toArray, List.getElem_cons_succ, List.getElem_cons_zero, List.setIfInBounds_toArray, List.set_cons_zero, List.set_cons_succ]
      refine region_one 3 (by kernel_rfl) rfl (fun K hK => ?_)
      go_simp
      refine (HCF.out _).mono ?_
      rintro x wb ⟨rfl, hbb⟩
      have hateb := at_below hatea hbb
      have hatfb := at_below hatfa hbb
      refine hK.out _ _ (fun _ => True) trivial (fun _ h => h) (fun hHeld => ?_)
      clear hK K hHeld
      try simp only [Act.put, List.getElem_toArray, List.getElem_cons_succ, List.getElem_cons_zero, List.setIfInBounds_toArray, List.set_cons_zero, List.set_cons_succ]
      have hbw2 := chain (chain hb1 hba) hbb
      clear k0 k1 k2 k3 m0 m1 m2 m3 hate1 hatf1 hb1 hba hbb HCE HCF hatea hatfa
      obtain ⟨p0, p1, p2, p3⟩ := frozen4 hateb
      obtain ⟨c0, c1, c2, c3⟩ := cells4 hateb
      refine region_one 4 (by kernel_rfl) rfl (fun K hK => ?_)
      go_simp
      obtain ⟨he3, hG3⟩ := put4 hateb (.string ek2) (.string ev2) (.int .i64 er2) (.bool eg2)
      have hf3 := only_at hG3 hatfb (by omega)
      have hbw3 := chainG hbw2 hG3 (Nat.le_refl _)
      generalize World.setCell _ ⟨w.heap.size, 3, none⟩ (Value.bool eg2) = w3 at *
      clear p0 p1 p2 p3 c0 c1 c2 c3 hG3 hateb hatfb hbw2
      refine hK.out _ _ (fun _ => True) trivial (fun _ h => h) (fun hHeld => ?_)
      clear hK K hHeld
      try simp only [Act.put, List.getElem_toArray, List.getElem_cons_succ, List.getElem_cons_zero, List.setIfInBounds_toArray, List.set_cons_zero, List.set_cons_succ]
      obtain ⟨p0, p1, p2, p3⟩ := frozen4 hf3
      obtain ⟨c0, c1, c2, c3⟩ := cells4 hf3
      refine region_one 5 (by kernel_rfl) rfl (fun K hK => ?_)
      go_simp
      obtain ⟨hf4, hG4⟩ := put4 hf3 (.string fk2) (.string fv2) (.int .i64 fr2) (.bool fg2)
      have he4 := only_at hG4 he3 (by omega)
      have hbw4 := chainG hbw3 hG4 (Nat.le_succ _)
      generalize World.setCell _ ⟨w.heap.size + 1, 3, none⟩ (Value.bool fg2) = w4 at *
      clear p0 p1 p2 p3 c0 c1 c2 c3 hG4 hf3 he3 hbw3
      refine hK.out _ _ (fun _ => True) trivial (fun _ h => h) (fun hHeld => ?_)
      clear hK K hHeld
      try simp only [Act.put, List.getElem_toArray, List.getElem_cons_succ, List.getElem_cons_zero, List.setIfInBounds_toArray, List.set_cons_zero, List.set_cons_succ]
      refine wpAnyH_done (by kernel_rfl) ?_ _
      obtain ⟨k0, k1, k2, k3⟩ := cells4 he4
      go_wp2_with fail
      refine (HRE.out _).mono ?_
      rintro x w5 ⟨rfl, hb5⟩
      have he5 := at_below he4 hb5
      have hf5 := at_below hf4 hb5
      have hbw5 := chain hbw4 hb5
      clear he4 hf4 hbw4 hb5 k0 k1 k2 k3 HRE
      by_cases hre : Eff.right ⟨ek2, ev2, er2, eg2⟩
      · rw [decide_eq_true hre]
        obtain ⟨k0, k1, k2, k3⟩ := cells4 hf5
        go_wp2_with fail
        refine (HRF.out _).mono ?_
        rintro x w6 ⟨rfl, hb6⟩
        have he6 := at_below he5 hb6
        have hf6 := at_below hf5 hb6
        have hbw6 := chain hbw5 hb6
        clear he5 hf5 hbw5 hb6 k0 k1 k2 k3 HRF
        by_cases hrf : Eff.right ⟨fk2, fv2, fr2, fg2⟩
        · rw [decide_eq_true hrf]
          have HPE1 := Lib.hid (fun w => HPE.out w hre)
          have HPF1 := Lib.hid (fun w => HPF.out w hrf)
          have HI1 := Lib.hid (HI.out hre hrf)
          clear hre hrf HPE HPF HI
          obtain ⟨k0, k1, k2, k3⟩ := cells4 he6
          go_wp2_with fail
          refine (HOE.out _).mono ?_
          rintro x w7 ⟨rfl, hb7⟩
          have he7 := at_below he6 hb7
          have hf7 := at_below hf6 hb7
          have hbw7 := chain hbw6 hb7
          clear he6 hf6 hbw6 hb7 k0 k1 k2 k3 HOE
          go_wp2_with fail
          refine (HPE1.out _).mono ?_
          rintro x w8 ⟨A8, c8, rfl, hown8, hb8⟩
          have he8 := at_below he7 hb8
          have hf8 := at_below hf7 hb8
          have hbw8 := chain hbw7 hb8
          clear he7 hf7 hbw7 hb8 HPE1
          obtain ⟨k0, k1, k2, k3⟩ := cells4 hf8
          go_wp2_with fail
          refine (HOF.out _).mono ?_
          rintro x w9 ⟨rfl, hb9⟩
          have he9 := at_below he8 hb9
          have hf9 := at_below hf8 hb9
          have hbw9 := chain hbw8 hb9
          have hown9 := hown8.below hb9
          clear he8 hf8 hbw8 hb9 hown8 k0 k1 k2 k3 HOF
          go_wp2_with fail
          refine (HPF1.out _).mono ?_
          rintro x w10 ⟨A10, c10, rfl, hown10, hb10⟩
          have he10 := at_below he9 hb10
          have hf10 := at_below hf9 hb10
          have hbw10 := chain hbw9 hb10
          have hown11 := hown9.below hb10
          clear he9 hf9 hbw9 hb10 hown9 HPF1
          have k0 : ∀ w', Below w10.heap.size w10 w' → _ := fun w' hb => (cells4 (at_below he10 hb)).1
          have k1 : ∀ w', Below w10.heap.size w10 w' → _ := fun w' hb => (cells4 (at_below he10 hb)).2.1
          have k2 : ∀ w', Below w10.heap.size w10 w' → _ := fun w' hb => (cells4 (at_below he10 hb)).2.2.1
          have k3 : ∀ w', Below w10.heap.size w10 w' → _ := fun w' hb => (cells4 (at_below he10 hb)).2.2.2
          have m0 : ∀ w', Below w10.heap.size w10 w' → _ := fun w' hb => (cells4 (at_below hf10 hb)).1
          have m1 : ∀ w', Below w10.heap.size w10 w' → _ := fun w' hb => (cells4 (at_below hf10 hb)).2.1
          have m2 : ∀ w', Below w10.heap.size w10 w' → _ := fun w' hb => (cells4 (at_below hf10 hb)).2.2.1
          have m3 : ∀ w', Below w10.heap.size w10 w' → _ := fun w' hb => (cells4 (at_below hf10 hb)).2.2.2
          have ke : ∀ w', Below w10.heap.size w10 w' → _ := fun w' hb => conv_str (hown11.rd.below hb)
          have kf : ∀ w', Below w10.heap.size w10 w' → _ := fun w' hb => conv_str (hown10.rd.below hb)
          clear he10 hf10 hown10 hown11 hlen hlenf
          by_cases hef : (⟨ek2, ev2, er2, eg2⟩ : Eff) = ⟨fk2, fv2, fr2, fg2⟩
          · obtain rfl := HLL.out hef
            injection hef with q1 q2 q3 q4
            subst q1 q2 q3 q4
            clear HI1 HLL
            go_wp2_with fail
            refine region_begin (fun w' => Below w10.heap.size w10 w') (by kernel_rfl) (Below.drew (Below.refl _ _)) (fun hHeld => ?_)
            refine wpAnyH_take (i := 0) (v := ?_) rfl (by kernel_rfl) (by kernel_rfl) (by kernel_rfl) (fun _ _ _ h => h) (Or.inl ⟨by kernel_rfl, ?_⟩) (by assumption) ?_
            rotate_left
            · (intro wS hwS; (try dsimp only at hwS); go_simp; try (first | (with_reducible rfl) | rw [if_pos (by omega)] | rw [if_neg (by omega)]))
            try simp only [Act.put, List.getElem_toArray, List.getElem_cons_succ, List.getElem_cons_zero, List.setIfInBounds_toArray, List.set_cons_zero, List.set_cons_succ]
            refine wpAnyH_take (i := 1) (v := ?_) rfl (by kernel_rfl) (by kernel_rfl) (by kernel_rfl) (fun _ _ _ h => h) (Or.inl ⟨by kernel_rfl, ?_⟩) (by assumption) ?_
            rotate_left
            · (intro wS hwS; (try dsimp only at hwS); go_simp; try (first | (with_reducible rfl) | rw [if_pos (by omega)] | rw [if_neg (by omega)]))
            try simp only [Act.put, List.getElem_toArray, List.getElem_cons_succ, List.getElem_cons_zero, List.setIfInBounds_toArray, List.set_cons_zero, List.set_cons_succ]
            refine wpAnyH_take (i := 2) (v := ?_) rfl (by kernel_rfl) (by kernel_rfl) (by kernel_rfl) (fun _ _ _ h => h) (Or.inl ⟨by kernel_rfl, ?_⟩) (by assumption) ?_
            rotate_left
            · (intro wS hwS; (try dsimp only at hwS); go_simp; try (first | (with_reducible rfl) | rw [if_pos (by omega)] | rw [if_neg (by omega)]))
            try simp only [Act.put, List.getElem_toArray, List.getElem_cons_succ, List.getElem_cons_zero, List.setIfInBounds_toArray, List.set_cons_zero, List.set_cons_succ]
            refine wpAnyH_take (i := 3) (v := ?_) rfl (by kernel_rfl) (by kernel_rfl) (by kernel_rfl) (fun _ _ _ h => h) (Or.inl ⟨by kernel_rfl, ?_⟩) (by assumption) ?_
            rotate_left
            · (intro wS hwS; (try dsimp only at hwS); go_simp; try (first | (with_reducible rfl) | rw [if_pos (by omega)] | rw [if_neg (by omega)]))
            try simp only [Act.put, List.getElem_toArray, List.getElem_cons_succ, List.getElem_cons_zero, List.setIfInBounds_toArray, List.set_cons_zero, List.set_cons_succ]
            refine wpAnyH_take (i := 4) (v := ?_) rfl (by kernel_rfl) (by kernel_rfl) (by kernel_rfl) (fun _ _ _ h => h) (Or.inl ⟨by kernel_rfl, ?_⟩) (by assumption) ?_
            rotate_left
            · (intro wS hwS; (try dsimp only at hwS); go_simp; try (first | (with_reducible rfl) | rw [if_pos (by omega)] | rw [if_neg (by omega)]))
            try simp only [Act.put, List.getElem_toArray, List.getElem_cons_succ, List.getElem_cons_zero, List.setIfInBounds_toArray, List.set_cons_zero, List.set_cons_succ]
            refine wpAnyH_take (i := 5) (v := ?_) rfl (by kernel_rfl) (by kernel_rfl) (by kernel_rfl) (fun _ _ _ h => h) (Or.inl ⟨by kernel_rfl, ?_⟩) (by assumption) ?_
            rotate_left
            · (intro wS hwS; (try dsimp only at hwS); go_simp; try (first | (with_reducible rfl) | rw [if_pos (by omega)] | rw [if_neg (by omega)]))
            try simp only [Act.put, List.getElem_toArray, List.getElem_cons_succ, List.getElem_cons_zero, List.setIfInBounds_toArray, List.set_cons_zero, List.set_cons_succ]
            refine wpAnyH_take (i := 6) (v := ?_) rfl (by kernel_rfl) (by kernel_rfl) (by kernel_rfl) (fun _ _ _ h => h) (Or.inl ⟨by kernel_rfl, ?_⟩) (by assumption) ?_
            rotate_left
            · (intro wS hwS; (try dsimp only at hwS); go_simp; try (first | (with_reducible rfl) | rw [if_pos (by omega)] | rw [if_neg (by omega)]))
            try simp only [Act.put, List.getElem_toArray, List.getElem_cons_succ, List.getElem_cons_zero, List.setIfInBounds_toArray, List.set_cons_zero, List.set_cons_succ]
            refine wpAnyH_take (i := 7) (v := ?_) rfl (by kernel_rfl) (by kernel_rfl) (by kernel_rfl) (fun _ _ _ h => h) (Or.inl ⟨by kernel_rfl, ?_⟩) (by assumption) ?_
            rotate_left
            · (intro wS hwS; (try dsimp only at hwS); go_simp; try (first | (with_reducible rfl) | rw [if_pos (by omega)] | rw [if_neg (by omega)]))
            try simp only [Act.put, List.getElem_toArray, List.getElem_cons_succ, List.getElem_cons_zero, List.setIfInBounds_toArray, List.set_cons_zero, List.set_cons_succ]
            refine wpAnyH_take (i := 8) (v := ?_) rfl (by kernel_rfl) (by kernel_rfl) (by kernel_rfl) (fun _ _ _ h => h) (Or.inl ⟨by kernel_rfl, ?_⟩) (by assumption) ?_
            rotate_left
            · (intro wS hwS; (try dsimp only at hwS); go_simp; try (first | (with_reducible rfl) | rw [if_pos (by omega)] | rw [if_neg (by omega)]))
            try simp only [Act.put, List.getElem_toArray, List.getElem_cons_succ, List.getElem_cons_zero, List.setIfInBounds_toArray, List.set_cons_zero, List.set_cons_succ]
            refine wpAnyH_take (i := 9) (v := ?_) rfl (by kernel_rfl) (by kernel_rfl) (by kernel_rfl) (fun _ _ _ h => h) (Or.inl ⟨by kernel_rfl, ?_⟩) (by assumption) ?_
            rotate_left
            · (intro wS hwS; (try dsimp only at hwS); go_simp; try (first | (with_reducible rfl) | rw [if_pos (by omega)] | rw [if_neg (by omega)]))
            try simp only [Act.put, List.getElem_toArray, List.getElem_cons_succ, List.getElem_cons_zero, List.setIfInBounds_toArray, List.set_cons_zero, List.set_cons_succ]
            refine region_one 10 (by kernel_rfl) rfl (fun K hK => ?_)
            go_simp
            refine (awake10 _).mono ?_
            rintro x w11 ⟨rfl, hb11⟩
            have hc11 := chain hHeld hb11
            refine hK.out _ _ (fun w' => Below w10.heap.size w10 w') (hc11) (fun _ h => h) (fun hHeld => ?_)
            clear hK K
            try simp only [Act.put, List.getElem_toArray, List.getElem_cons_succ, List.getElem_cons_zero, List.setIfInBounds_toArray, List.set_cons_zero, List.set_cons_succ]
            refine wpAnyH_take (i := 11) (v := ?_) rfl (by kernel_rfl) (by kernel_rfl) (by kernel_rfl) (fun _ _ _ h => h) (Or.inl ⟨by kernel_rfl, ?_⟩) (by assumption) ?_
            rotate_left
            · (intro wS hwS; (try dsimp only at hwS); go_simp; try (first | (with_reducible rfl) | rw [if_pos (by omega)] | rw [if_neg (by omega)]))
            try simp only [Act.put, List.getElem_toArray, List.getElem_cons_succ, List.getElem_cons_zero, List.setIfInBounds_toArray, List.set_cons_zero, List.set_cons_succ]
            refine wpAnyH_take (i := 12) (v := ?_) rfl (by kernel_rfl) (by kernel_rfl) (by kernel_rfl) (fun _ _ _ h => h) (Or.inl ⟨by kernel_rfl, ?_⟩) (by assumption) ?_
            rotate_left
            · (intro wS hwS; (try dsimp only at hwS); go_simp; try (first | (with_reducible rfl) | rw [if_pos (by omega)] | rw [if_neg (by omega)]))
            try simp only [Act.put, List.getElem_toArray, List.getElem_cons_succ, List.getElem_cons_zero, List.setIfInBounds_toArray, List.set_cons_zero, List.set_cons_succ]
            refine wpAnyH_done (by kernel_rfl) ?_ _
            have hbz := chain hbw10 hHeld
            clear k0 k1 k2 k3 m0 m1 m2 m3 ke kf hHeld hc11 hbw10 hb11 her hek hev hfk hfv hfr
            go_wp2_with fail
            go_ret
            exact ⟨rfl, hbz⟩
          · skip
            have hLne : (Le == Lf) = false := by
              rw [beq_eq_false_iff_ne]
              exact fun h => hef (HI1.out h)
            clear HI1 HLL
            have HN := Lib.hid hef
            clear hef
            go_wp2_with fail
            refine region_begin (fun w' => Below w10.heap.size w10 w') (by kernel_rfl) (Below.drew (Below.refl _ _)) (fun hHeld => ?_)
            refine wpAnyH_take (i := 0) (v := ?_) rfl (by kernel_rfl) (by kernel_rfl) (by kernel_rfl) (fun _ _ _ h => h) (Or.inl ⟨by kernel_rfl, ?_⟩) (by assumption) ?_
            rotate_left
            · (intro wS hwS; (try dsimp only at hwS); go_simp; try (first | (with_reducible rfl) | rw [if_pos (by omega)] | rw [if_neg (by omega)]))
            try simp only [Act.put, List.getElem_toArray, List.getElem_cons_succ, List.getElem_cons_zero, List.setIfInBounds_toArray, List.set_cons_zero, List.set_cons_succ]
            refine wpAnyH_take (i := 1) (v := ?_) rfl (by kernel_rfl) (by kernel_rfl) (by kernel_rfl) (fun _ _ _ h => h) (Or.inl ⟨by kernel_rfl, ?_⟩) (by assumption) ?_
            rotate_left
            · (intro wS hwS; (try dsimp only at hwS); go_simp; try (first | (with_reducible rfl) | rw [if_pos (by omega)] | rw [if_neg (by omega)]))
            try simp only [Act.put, List.getElem_toArray, List.getElem_cons_succ, List.getElem_cons_zero, List.setIfInBounds_toArray, List.set_cons_zero, List.set_cons_succ]
            refine wpAnyH_take (i := 2) (v := ?_) rfl (by kernel_rfl) (by kernel_rfl) (by kernel_rfl) (fun _ _ _ h => h) (Or.inl ⟨by kernel_rfl, ?_⟩) (by assumption) ?_
            rotate_left
            · (intro wS hwS; (try dsimp only at hwS); go_simp; try (first | (with_reducible rfl) | rw [if_pos (by omega)] | rw [if_neg (by omega)]))
            try simp only [Act.put, List.getElem_toArray, List.getElem_cons_succ, List.getElem_cons_zero, List.setIfInBounds_toArray, List.set_cons_zero, List.set_cons_succ]
            refine wpAnyH_take (i := 3) (v := ?_) rfl (by kernel_rfl) (by kernel_rfl) (by kernel_rfl) (fun _ _ _ h => h) (Or.inl ⟨by kernel_rfl, ?_⟩) (by assumption) ?_
            rotate_left
            · (intro wS hwS; (try dsimp only at hwS); go_simp; try (first | (with_reducible rfl) | rw [if_pos (by omega)] | rw [if_neg (by omega)]))
            try simp only [Act.put, List.getElem_toArray, List.getElem_cons_succ, List.getElem_cons_zero, List.setIfInBounds_toArray, List.set_cons_zero, List.set_cons_succ]
            refine wpAnyH_take (i := 4) (v := ?_) rfl (by kernel_rfl) (by kernel_rfl) (by kernel_rfl) (fun _ _ _ h => h) (Or.inl ⟨by kernel_rfl, ?_⟩) (by assumption) ?_
            rotate_left
            · (intro wS hwS; (try dsimp only at hwS); go_simp; try (first | (with_reducible rfl) | rw [if_pos (by omega)] | rw [if_neg (by omega)]))
            try simp only [Act.put, List.getElem_toArray, List.getElem_cons_succ, List.getElem_cons_zero, List.setIfInBounds_toArray, List.set_cons_zero, List.set_cons_succ]
            refine wpAnyH_take (i := 5) (v := ?_) rfl (by kernel_rfl) (by kernel_rfl) (by kernel_rfl) (fun _ _ _ h => h) (Or.inl ⟨by kernel_rfl, ?_⟩) (by assumption) ?_
            rotate_left
            · (intro wS hwS; (try dsimp only at hwS); go_simp; try (first | (with_reducible rfl) | rw [if_pos (by omega)] | rw [if_neg (by omega)]))
            try simp only [Act.put, List.getElem_toArray, List.getElem_cons_succ, List.getElem_cons_zero, List.setIfInBounds_toArray, List.set_cons_zero, List.set_cons_succ]
            refine wpAnyH_take (i := 6) (v := ?_) rfl (by kernel_rfl) (by kernel_rfl) (by kernel_rfl) (fun _ _ _ h => h) (Or.inl ⟨by kernel_rfl, ?_⟩) (by assumption) ?_
            rotate_left
            · (intro wS hwS; (try dsimp only at hwS); go_simp; try (first | (with_reducible rfl) | rw [if_pos (by omega)] | rw [if_neg (by omega)]))
            try simp only [Act.put, List.getElem_toArray, List.getElem_cons_succ, List.getElem_cons_zero, List.setIfInBounds_toArray, List.set_cons_zero, List.set_cons_succ]
            refine wpAnyH_take (i := 7) (v := ?_) rfl (by kernel_rfl) (by kernel_rfl) (by kernel_rfl) (fun _ _ _ h => h) (Or.inl ⟨by kernel_rfl, ?_⟩) (by assumption) ?_
            rotate_left
            · (intro wS hwS; (try dsimp only at hwS); go_simp; exact eff_nest HN.out _ _)
            try simp only [Act.put, List.getElem_toArray, List.getElem_cons_succ, List.getElem_cons_zero, List.setIfInBounds_toArray, List.set_cons_zero, List.set_cons_succ]
            refine wpAnyH_take (i := 8) (v := ?_) rfl (by kernel_rfl) (by kernel_rfl) (by kernel_rfl) (fun _ _ _ h => h) (Or.inl ⟨by kernel_rfl, ?_⟩) (by assumption) ?_
            rotate_left
            · (intro wS hwS; (try dsimp only at hwS); go_simp; try (first | (with_reducible rfl) | rw [if_pos (by omega)] | rw [if_neg (by omega)]))
            try simp only [Act.put, List.getElem_toArray, List.getElem_cons_succ, List.getElem_cons_zero, List.setIfInBounds_toArray, List.set_cons_zero, List.set_cons_succ]
            refine wpAnyH_take (i := 9) (v := ?_) rfl (by kernel_rfl) (by kernel_rfl) (by kernel_rfl) (fun _ _ _ h => h) (Or.inl ⟨by kernel_rfl, ?_⟩) (by assumption) ?_
            rotate_left
            · (intro wS hwS; (try dsimp only at hwS); go_simp; try (first | (with_reducible rfl) | rw [if_pos (by omega)] | rw [if_neg (by omega)]))
            try simp only [Act.put, List.getElem_toArray, List.getElem_cons_succ, List.getElem_cons_zero, List.setIfInBounds_toArray, List.set_cons_zero, List.set_cons_succ]
            refine region_one 10 (by kernel_rfl) rfl (fun K hK => ?_)
            go_simp
            refine (awake10 _).mono ?_
            rintro x w11 ⟨rfl, hb11⟩
            have hc11 := chain hHeld hb11
            refine hK.out _ _ (fun w' => Below w10.heap.size w10 w') (hc11) (fun _ h => h) (fun hHeld => ?_)
            clear hK K
            try simp only [Act.put, List.getElem_toArray, List.getElem_cons_succ, List.getElem_cons_zero, List.setIfInBounds_toArray, List.set_cons_zero, List.set_cons_succ]
            refine wpAnyH_take (i := 11) (v := ?_) rfl (by kernel_rfl) (by kernel_rfl) (by kernel_rfl) (fun _ _ _ h => h) (Or.inl ⟨by kernel_rfl, ?_⟩) (by assumption) ?_
            rotate_left
            · (intro wS hwS; (try dsimp only at hwS); go_simp; try (first | (with_reducible rfl) | rw [if_pos (by omega)] | rw [if_neg (by omega)]))
            try simp only [Act.put, List.getElem_toArray, List.getElem_cons_succ, List.getElem_cons_zero, List.setIfInBounds_toArray, List.set_cons_zero, List.set_cons_succ]
            refine wpAnyH_take (i := 12) (v := ?_) rfl (by kernel_rfl) (by kernel_rfl) (by kernel_rfl) (fun _ _ _ h => h) (Or.inl ⟨by kernel_rfl, ?_⟩) (by assumption) ?_
            rotate_left
            · (intro wS hwS; (try dsimp only at hwS); go_simp; try (first | (with_reducible rfl) | rw [if_pos (by omega)] | rw [if_neg (by omega)]))
            try simp only [Act.put, List.getElem_toArray, List.getElem_cons_succ, List.getElem_cons_zero, List.setIfInBounds_toArray, List.set_cons_zero, List.set_cons_succ]
            refine wpAnyH_done (by kernel_rfl) ?_ _
            have hbz := chain hbw10 hHeld
            clear k0 k1 k2 k3 m0 m1 m2 m3 ke kf hHeld hc11 hbw10 hb11 her hek hev hfk hfv hfr
            go_wp2_with fail
            go_ret
            exact ⟨rfl, hbz⟩
        · rw [decide_eq_false hrf]
          clear hre hrf HPE HPF HI HOE HOF he6 hf6
          go_wp2_with fail
          refine (awake10 _).mono ?_
          rintro x wz ⟨rfl, hbz⟩
          have hbq := chain hbw6 hbz
          clear hbw6 hbz
          go_wp2_with fail
          go_ret
          exact ⟨rfl, hbq⟩
      · rw [decide_eq_false hre]
        clear hre HPE HPF HI HOE HOF HRF he5 hf5
        go_wp2_with fail
        refine (awake10 _).mono ?_
        rintro x wz ⟨rfl, hbz⟩
        have hbq := chain hbw5 hbz
        clear hbw5 hbz
        go_wp2_with fail
        go_ret
        exact ⟨rfl, hbq⟩

    · go_simp
      refine hK.out _ _ (fun _ => True) trivial (fun _ h => h) (fun hHeld => ?_)
      clear hK K hHeld
      try simp only [Act.put, List.getElem_toArray, List.getElem_cons_succ, List.getElem_cons_zero, List.setIfInBounds_toArray, List.set_cons_zero, List.set_cons_succ]
      refine region_one 1 (by kernel_rfl) rfl (fun K hK => ?_)
      go_simp
      refine (HCE.out _).mono ?_
      rintro x wa ⟨rfl, hba⟩
      have hatea := at_below hate1 hba
      have hatfa := at_below hatf1 hba
      obtain ⟨k0, k1, k2, k3⟩ := cells4 hatea
      obtain ⟨m0, m1, m2, m3⟩ := cells4 hatfa
      refine hK.out _ _ (fun _ => True) trivial (fun _ h => h) (fun hHeld => ?_)
      clear hK K hHeld
      try simp only [Act.put, List.getElem_toArray, List.getElem_cons_succ, List.getElem_cons_zero, List.setIfInBounds_toArray, List.set_cons_zero, List.set_cons_succ]
      refine region_one 3 (by kernel_rfl) rfl (fun K hK => ?_)
      go_simp
      refine (HCF.out _).mono ?_
      rintro x wb ⟨rfl, hbb⟩
      have hateb := at_below hatea hbb
      have hatfb := at_below hatfa hbb
      refine hK.out _ _ (fun _ => True) trivial (fun _ h => h) (fun hHeld => ?_)
      clear hK K hHeld
      try simp only [Act.put, List.getElem_toArray, List.getElem_cons_succ, List.getElem_cons_zero, List.setIfInBounds_toArray, List.set_cons_zero, List.set_cons_succ]
      have hbw2 := chain (chain hb1 hba) hbb
      clear k0 k1 k2 k3 m0 m1 m2 m3 hate1 hatf1 hb1 hba hbb HCE HCF hatea hatfa
      obtain ⟨p0, p1, p2, p3⟩ := frozen4 hateb
      obtain ⟨c0, c1, c2, c3⟩ := cells4 hateb
      refine region_one 4 (by kernel_rfl) rfl (fun K hK => ?_)
      go_simp
      obtain ⟨he3, hG3⟩ := put4 hateb (.string ek2) (.string ev2) (.int .i64 er2) (.bool eg2)
      have hf3 := only_at hG3 hatfb (by omega)
      have hbw3 := chainG hbw2 hG3 (Nat.le_refl _)
      generalize World.setCell _ ⟨w.heap.size, 3, none⟩ (Value.bool eg2) = w3 at *
      clear p0 p1 p2 p3 c0 c1 c2 c3 hG3 hateb hatfb hbw2
      refine hK.out _ _ (fun _ => True) trivial (fun _ h => h) (fun hHeld => ?_)
      clear hK K hHeld
      try simp only [Act.put, List.getElem_toArray, List.getElem_cons_succ, List.getElem_cons_zero, List.setIfInBounds_toArray, List.set_cons_zero, List.set_cons_succ]
      obtain ⟨p0, p1, p2, p3⟩ := frozen4 hf3
      obtain ⟨c0, c1, c2, c3⟩ := cells4 hf3
      refine region_one 5 (by kernel_rfl) rfl (fun K hK => ?_)
      go_simp
      obtain ⟨hf4, hG4⟩ := put4 hf3 (.string fk2) (.string fv2) (.int .i64 fr2) (.bool fg2)
      have he4 := only_at hG4 he3 (by omega)
      have hbw4 := chainG hbw3 hG4 (Nat.le_succ _)
      generalize World.setCell _ ⟨w.heap.size + 1, 3, none⟩ (Value.bool fg2) = w4 at *
      clear p0 p1 p2 p3 c0 c1 c2 c3 hG4 hf3 he3 hbw3
      refine hK.out _ _ (fun _ => True) trivial (fun _ h => h) (fun hHeld => ?_)
      clear hK K hHeld
      try simp only [Act.put, List.getElem_toArray, List.getElem_cons_succ, List.getElem_cons_zero, List.setIfInBounds_toArray, List.set_cons_zero, List.set_cons_succ]
      refine wpAnyH_done (by kernel_rfl) ?_ _
      obtain ⟨k0, k1, k2, k3⟩ := cells4 he4
      go_wp2_with fail
      refine (HRE.out _).mono ?_
      rintro x w5 ⟨rfl, hb5⟩
      have he5 := at_below he4 hb5
      have hf5 := at_below hf4 hb5
      have hbw5 := chain hbw4 hb5
      clear he4 hf4 hbw4 hb5 k0 k1 k2 k3 HRE
      by_cases hre : Eff.right ⟨ek2, ev2, er2, eg2⟩
      · rw [decide_eq_true hre]
        obtain ⟨k0, k1, k2, k3⟩ := cells4 hf5
        go_wp2_with fail
        refine (HRF.out _).mono ?_
        rintro x w6 ⟨rfl, hb6⟩
        have he6 := at_below he5 hb6
        have hf6 := at_below hf5 hb6
        have hbw6 := chain hbw5 hb6
        clear he5 hf5 hbw5 hb6 k0 k1 k2 k3 HRF
        by_cases hrf : Eff.right ⟨fk2, fv2, fr2, fg2⟩
        · rw [decide_eq_true hrf]
          have HPE1 := Lib.hid (fun w => HPE.out w hre)
          have HPF1 := Lib.hid (fun w => HPF.out w hrf)
          have HI1 := Lib.hid (HI.out hre hrf)
          clear hre hrf HPE HPF HI
          obtain ⟨k0, k1, k2, k3⟩ := cells4 he6
          go_wp2_with fail
          refine (HOE.out _).mono ?_
          rintro x w7 ⟨rfl, hb7⟩
          have he7 := at_below he6 hb7
          have hf7 := at_below hf6 hb7
          have hbw7 := chain hbw6 hb7
          clear he6 hf6 hbw6 hb7 k0 k1 k2 k3 HOE
          go_wp2_with fail
          refine (HPE1.out _).mono ?_
          rintro x w8 ⟨A8, c8, rfl, hown8, hb8⟩
          have he8 := at_below he7 hb8
          have hf8 := at_below hf7 hb8
          have hbw8 := chain hbw7 hb8
          clear he7 hf7 hbw7 hb8 HPE1
          obtain ⟨k0, k1, k2, k3⟩ := cells4 hf8
          go_wp2_with fail
          refine (HOF.out _).mono ?_
          rintro x w9 ⟨rfl, hb9⟩
          have he9 := at_below he8 hb9
          have hf9 := at_below hf8 hb9
          have hbw9 := chain hbw8 hb9
          have hown9 := hown8.below hb9
          clear he8 hf8 hbw8 hb9 hown8 k0 k1 k2 k3 HOF
          go_wp2_with fail
          refine (HPF1.out _).mono ?_
          rintro x w10 ⟨A10, c10, rfl, hown10, hb10⟩
          have he10 := at_below he9 hb10
          have hf10 := at_below hf9 hb10
          have hbw10 := chain hbw9 hb10
          have hown11 := hown9.below hb10
          clear he9 hf9 hbw9 hb10 hown9 HPF1
          have k0 : ∀ w', Below w10.heap.size w10 w' → _ := fun w' hb => (cells4 (at_below he10 hb)).1
          have k1 : ∀ w', Below w10.heap.size w10 w' → _ := fun w' hb => (cells4 (at_below he10 hb)).2.1
          have k2 : ∀ w', Below w10.heap.size w10 w' → _ := fun w' hb => (cells4 (at_below he10 hb)).2.2.1
          have k3 : ∀ w', Below w10.heap.size w10 w' → _ := fun w' hb => (cells4 (at_below he10 hb)).2.2.2
          have m0 : ∀ w', Below w10.heap.size w10 w' → _ := fun w' hb => (cells4 (at_below hf10 hb)).1
          have m1 : ∀ w', Below w10.heap.size w10 w' → _ := fun w' hb => (cells4 (at_below hf10 hb)).2.1
          have m2 : ∀ w', Below w10.heap.size w10 w' → _ := fun w' hb => (cells4 (at_below hf10 hb)).2.2.1
          have m3 : ∀ w', Below w10.heap.size w10 w' → _ := fun w' hb => (cells4 (at_below hf10 hb)).2.2.2
          have ke : ∀ w', Below w10.heap.size w10 w' → _ := fun w' hb => conv_str (hown11.rd.below hb)
          have kf : ∀ w', Below w10.heap.size w10 w' → _ := fun w' hb => conv_str (hown10.rd.below hb)
          clear he10 hf10 hown10 hown11 hlen hlenf
          by_cases hef : (⟨ek2, ev2, er2, eg2⟩ : Eff) = ⟨fk2, fv2, fr2, fg2⟩
          · obtain rfl := HLL.out hef
            injection hef with q1 q2 q3 q4
            subst q1 q2 q3 q4
            clear HI1 HLL
            go_wp2_with fail
            refine region_begin (fun w' => Below w10.heap.size w10 w') (by kernel_rfl) (Below.drew (Below.refl _ _)) (fun hHeld => ?_)
            refine wpAnyH_take (i := 0) (v := ?_) rfl (by kernel_rfl) (by kernel_rfl) (by kernel_rfl) (fun _ _ _ h => h) (Or.inl ⟨by kernel_rfl, ?_⟩) (by assumption) ?_
            rotate_left
            · (intro wS hwS; (try dsimp only at hwS); go_simp; try (first | (with_reducible rfl) | rw [if_pos (by omega)] | rw [if_neg (by omega)]))
            try simp only [Act.put, List.getElem_toArray, List.getElem_cons_succ, List.getElem_cons_zero, List.setIfInBounds_toArray, List.set_cons_zero, List.set_cons_succ]
            refine wpAnyH_take (i := 1) (v := ?_) rfl (by kernel_rfl) (by kernel_rfl) (by kernel_rfl) (fun _ _ _ h => h) (Or.inl ⟨by kernel_rfl, ?_⟩) (by assumption) ?_
            rotate_left
            · (intro wS hwS; (try dsimp only at hwS); go_simp; try (first | (with_reducible rfl) | rw [if_pos (by omega)] | rw [if_neg (by omega)]))
            try simp only [Act.put, List.getElem_toArray, List.getElem_cons_succ, List.getElem_cons_zero, List.setIfInBounds_toArray, List.set_cons_zero, List.set_cons_succ]
            refine wpAnyH_take (i := 2) (v := ?_) rfl (by kernel_rfl) (by kernel_rfl) (by kernel_rfl) (fun _ _ _ h => h) (Or.inl ⟨by kernel_rfl, ?_⟩) (by assumption) ?_
            rotate_left
            · (intro wS hwS; (try dsimp only at hwS); go_simp; try (first | (with_reducible rfl) | rw [if_pos (by omega)] | rw [if_neg (by omega)]))
            try simp only [Act.put, List.getElem_toArray, List.getElem_cons_succ, List.getElem_cons_zero, List.setIfInBounds_toArray, List.set_cons_zero, List.set_cons_succ]
            refine wpAnyH_take (i := 3) (v := ?_) rfl (by kernel_rfl) (by kernel_rfl) (by kernel_rfl) (fun _ _ _ h => h) (Or.inl ⟨by kernel_rfl, ?_⟩) (by assumption) ?_
            rotate_left
            · (intro wS hwS; (try dsimp only at hwS); go_simp; try (first | (with_reducible rfl) | rw [if_pos (by omega)] | rw [if_neg (by omega)]))
            try simp only [Act.put, List.getElem_toArray, List.getElem_cons_succ, List.getElem_cons_zero, List.setIfInBounds_toArray, List.set_cons_zero, List.set_cons_succ]
            refine wpAnyH_take (i := 4) (v := ?_) rfl (by kernel_rfl) (by kernel_rfl) (by kernel_rfl) (fun _ _ _ h => h) (Or.inl ⟨by kernel_rfl, ?_⟩) (by assumption) ?_
            rotate_left
            · (intro wS hwS; (try dsimp only at hwS); go_simp; try (first | (with_reducible rfl) | rw [if_pos (by omega)] | rw [if_neg (by omega)]))
            try simp only [Act.put, List.getElem_toArray, List.getElem_cons_succ, List.getElem_cons_zero, List.setIfInBounds_toArray, List.set_cons_zero, List.set_cons_succ]
            refine wpAnyH_take (i := 5) (v := ?_) rfl (by kernel_rfl) (by kernel_rfl) (by kernel_rfl) (fun _ _ _ h => h) (Or.inl ⟨by kernel_rfl, ?_⟩) (by assumption) ?_
            rotate_left
            · (intro wS hwS; (try dsimp only at hwS); go_simp; try (first | (with_reducible rfl) | rw [if_pos (by omega)] | rw [if_neg (by omega)]))
            try simp only [Act.put, List.getElem_toArray, List.getElem_cons_succ, List.getElem_cons_zero, List.setIfInBounds_toArray, List.set_cons_zero, List.set_cons_succ]
            refine wpAnyH_take (i := 6) (v := ?_) rfl (by kernel_rfl) (by kernel_rfl) (by kernel_rfl) (fun _ _ _ h => h) (Or.inl ⟨by kernel_rfl, ?_⟩) (by assumption) ?_
            rotate_left
            · (intro wS hwS; (try dsimp only at hwS); go_simp; try (first | (with_reducible rfl) | rw [if_pos (by omega)] | rw [if_neg (by omega)]))
            try simp only [Act.put, List.getElem_toArray, List.getElem_cons_succ, List.getElem_cons_zero, List.setIfInBounds_toArray, List.set_cons_zero, List.set_cons_succ]
            refine wpAnyH_take (i := 7) (v := ?_) rfl (by kernel_rfl) (by kernel_rfl) (by kernel_rfl) (fun _ _ _ h => h) (Or.inl ⟨by kernel_rfl, ?_⟩) (by assumption) ?_
            rotate_left
            · (intro wS hwS; (try dsimp only at hwS); go_simp; try (first | (with_reducible rfl) | rw [if_pos (by omega)] | rw [if_neg (by omega)]))
            try simp only [Act.put, List.getElem_toArray, List.getElem_cons_succ, List.getElem_cons_zero, List.setIfInBounds_toArray, List.set_cons_zero, List.set_cons_succ]
            refine wpAnyH_take (i := 8) (v := ?_) rfl (by kernel_rfl) (by kernel_rfl) (by kernel_rfl) (fun _ _ _ h => h) (Or.inl ⟨by kernel_rfl, ?_⟩) (by assumption) ?_
            rotate_left
            · (intro wS hwS; (try dsimp only at hwS); go_simp; try (first | (with_reducible rfl) | rw [if_pos (by omega)] | rw [if_neg (by omega)]))
            try simp only [Act.put, List.getElem_toArray, List.getElem_cons_succ, List.getElem_cons_zero, List.setIfInBounds_toArray, List.set_cons_zero, List.set_cons_succ]
            refine wpAnyH_take (i := 9) (v := ?_) rfl (by kernel_rfl) (by kernel_rfl) (by kernel_rfl) (fun _ _ _ h => h) (Or.inl ⟨by kernel_rfl, ?_⟩) (by assumption) ?_
            rotate_left
            · (intro wS hwS; (try dsimp only at hwS); go_simp; try (first | (with_reducible rfl) | rw [if_pos (by omega)] | rw [if_neg (by omega)]))
            try simp only [Act.put, List.getElem_toArray, List.getElem_cons_succ, List.getElem_cons_zero, List.setIfInBounds_toArray, List.set_cons_zero, List.set_cons_succ]
            refine region_one 10 (by kernel_rfl) rfl (fun K hK => ?_)
            go_simp
            refine (awake10 _).mono ?_
            rintro x w11 ⟨rfl, hb11⟩
            have hc11 := chain hHeld hb11
            refine hK.out _ _ (fun w' => Below w10.heap.size w10 w') (hc11) (fun _ h => h) (fun hHeld => ?_)
            clear hK K
            try simp only [Act.put, List.getElem_toArray, List.getElem_cons_succ, List.getElem_cons_zero, List.setIfInBounds_toArray, List.set_cons_zero, List.set_cons_succ]
            refine wpAnyH_take (i := 11) (v := ?_) rfl (by kernel_rfl) (by kernel_rfl) (by kernel_rfl) (fun _ _ _ h => h) (Or.inl ⟨by kernel_rfl, ?_⟩) (by assumption) ?_
            rotate_left
            · (intro wS hwS; (try dsimp only at hwS); go_simp; try (first | (with_reducible rfl) | rw [if_pos (by omega)] | rw [if_neg (by omega)]))
            try simp only [Act.put, List.getElem_toArray, List.getElem_cons_succ, List.getElem_cons_zero, List.setIfInBounds_toArray, List.set_cons_zero, List.set_cons_succ]
            refine wpAnyH_take (i := 12) (v := ?_) rfl (by kernel_rfl) (by kernel_rfl) (by kernel_rfl) (fun _ _ _ h => h) (Or.inl ⟨by kernel_rfl, ?_⟩) (by assumption) ?_
            rotate_left
            · (intro wS hwS; (try dsimp only at hwS); go_simp; try (first | (with_reducible rfl) | rw [if_pos (by omega)] | rw [if_neg (by omega)]))
            try simp only [Act.put, List.getElem_toArray, List.getElem_cons_succ, List.getElem_cons_zero, List.setIfInBounds_toArray, List.set_cons_zero, List.set_cons_succ]
            refine wpAnyH_done (by kernel_rfl) ?_ _
            have hbz := chain hbw10 hHeld
            clear k0 k1 k2 k3 m0 m1 m2 m3 ke kf hHeld hc11 hbw10 hb11 her hek hev hfk hfv hfr
            go_wp2_with fail
            go_ret
            exact ⟨rfl, hbz⟩
          · skip
            have hLne : (Le == Lf) = false := by
              rw [beq_eq_false_iff_ne]
              exact fun h => hef (HI1.out h)
            clear HI1 HLL
            have HN := Lib.hid hef
            clear hef
            go_wp2_with fail
            refine region_begin (fun w' => Below w10.heap.size w10 w') (by kernel_rfl) (Below.drew (Below.refl _ _)) (fun hHeld => ?_)
            refine wpAnyH_take (i := 0) (v := ?_) rfl (by kernel_rfl) (by kernel_rfl) (by kernel_rfl) (fun _ _ _ h => h) (Or.inl ⟨by kernel_rfl, ?_⟩) (by assumption) ?_
            rotate_left
            · (intro wS hwS; (try dsimp only at hwS); go_simp; try (first | (with_reducible rfl) | rw [if_pos (by omega)] | rw [if_neg (by omega)]))
            try simp only [Act.put, List.getElem_toArray, List.getElem_cons_succ, List.getElem_cons_zero, List.setIfInBounds_toArray, List.set_cons_zero, List.set_cons_succ]
            refine wpAnyH_take (i := 1) (v := ?_) rfl (by kernel_rfl) (by kernel_rfl) (by kernel_rfl) (fun _ _ _ h => h) (Or.inl ⟨by kernel_rfl, ?_⟩) (by assumption) ?_
            rotate_left
            · (intro wS hwS; (try dsimp only at hwS); go_simp; try (first | (with_reducible rfl) | rw [if_pos (by omega)] | rw [if_neg (by omega)]))
            try simp only [Act.put, List.getElem_toArray, List.getElem_cons_succ, List.getElem_cons_zero, List.setIfInBounds_toArray, List.set_cons_zero, List.set_cons_succ]
            refine wpAnyH_take (i := 2) (v := ?_) rfl (by kernel_rfl) (by kernel_rfl) (by kernel_rfl) (fun _ _ _ h => h) (Or.inl ⟨by kernel_rfl, ?_⟩) (by assumption) ?_
            rotate_left
            · (intro wS hwS; (try dsimp only at hwS); go_simp; try (first | (with_reducible rfl) | rw [if_pos (by omega)] | rw [if_neg (by omega)]))
            try simp only [Act.put, List.getElem_toArray, List.getElem_cons_succ, List.getElem_cons_zero, List.setIfInBounds_toArray, List.set_cons_zero, List.set_cons_succ]
            refine wpAnyH_take (i := 3) (v := ?_) rfl (by kernel_rfl) (by kernel_rfl) (by kernel_rfl) (fun _ _ _ h => h) (Or.inl ⟨by kernel_rfl, ?_⟩) (by assumption) ?_
            rotate_left
            · (intro wS hwS; (try dsimp only at hwS); go_simp; try (first | (with_reducible rfl) | rw [if_pos (by omega)] | rw [if_neg (by omega)]))
            try simp only [Act.put, List.getElem_toArray, List.getElem_cons_succ, List.getElem_cons_zero, List.setIfInBounds_toArray, List.set_cons_zero, List.set_cons_succ]
            refine wpAnyH_take (i := 4) (v := ?_) rfl (by kernel_rfl) (by kernel_rfl) (by kernel_rfl) (fun _ _ _ h => h) (Or.inl ⟨by kernel_rfl, ?_⟩) (by assumption) ?_
            rotate_left
            · (intro wS hwS; (try dsimp only at hwS); go_simp; try (first | (with_reducible rfl) | rw [if_pos (by omega)] | rw [if_neg (by omega)]))
            try simp only [Act.put, List.getElem_toArray, List.getElem_cons_succ, List.getElem_cons_zero, List.setIfInBounds_toArray, List.set_cons_zero, List.set_cons_succ]
            refine wpAnyH_take (i := 5) (v := ?_) rfl (by kernel_rfl) (by kernel_rfl) (by kernel_rfl) (fun _ _ _ h => h) (Or.inl ⟨by kernel_rfl, ?_⟩) (by assumption) ?_
            rotate_left
            · (intro wS hwS; (try dsimp only at hwS); go_simp; try (first | (with_reducible rfl) | rw [if_pos (by omega)] | rw [if_neg (by omega)]))
            try simp only [Act.put, List.getElem_toArray, List.getElem_cons_succ, List.getElem_cons_zero, List.setIfInBounds_toArray, List.set_cons_zero, List.set_cons_succ]
            refine wpAnyH_take (i := 6) (v := ?_) rfl (by kernel_rfl) (by kernel_rfl) (by kernel_rfl) (fun _ _ _ h => h) (Or.inl ⟨by kernel_rfl, ?_⟩) (by assumption) ?_
            rotate_left
            · (intro wS hwS; (try dsimp only at hwS); go_simp; try (first | (with_reducible rfl) | rw [if_pos (by omega)] | rw [if_neg (by omega)]))
            try simp only [Act.put, List.getElem_toArray, List.getElem_cons_succ, List.getElem_cons_zero, List.setIfInBounds_toArray, List.set_cons_zero, List.set_cons_succ]
            refine wpAnyH_take (i := 7) (v := ?_) rfl (by kernel_rfl) (by kernel_rfl) (by kernel_rfl) (fun _ _ _ h => h) (Or.inl ⟨by kernel_rfl, ?_⟩) (by assumption) ?_
            rotate_left
            · (intro wS hwS; (try dsimp only at hwS); go_simp; exact eff_nest HN.out _ _)
            try simp only [Act.put, List.getElem_toArray, List.getElem_cons_succ, List.getElem_cons_zero, List.setIfInBounds_toArray, List.set_cons_zero, List.set_cons_succ]
            refine wpAnyH_take (i := 8) (v := ?_) rfl (by kernel_rfl) (by kernel_rfl) (by kernel_rfl) (fun _ _ _ h => h) (Or.inl ⟨by kernel_rfl, ?_⟩) (by assumption) ?_
            rotate_left
            · (intro wS hwS; (try dsimp only at hwS); go_simp; try (first | (with_reducible rfl) | rw [if_pos (by omega)] | rw [if_neg (by omega)]))
            try simp only [Act.put, List.getElem_toArray, List.getElem_cons_succ, List.getElem_cons_zero, List.setIfInBounds_toArray, List.set_cons_zero, List.set_cons_succ]
            refine wpAnyH_take (i := 9) (v := ?_) rfl (by kernel_rfl) (by kernel_rfl) (by kernel_rfl) (fun _ _ _ h => h) (Or.inl ⟨by kernel_rfl, ?_⟩) (by assumption) ?_
            rotate_left
            · (intro wS hwS; (try dsimp only at hwS); go_simp; try (first | (with_reducible rfl) | rw [if_pos (by omega)] | rw [if_neg (by omega)]))
            try simp only [Act.put, List.getElem_toArray, List.getElem_cons_succ, List.getElem_cons_zero, List.setIfInBounds_toArray, List.set_cons_zero, List.set_cons_succ]
            refine region_one 10 (by kernel_rfl) rfl (fun K hK => ?_)
            go_simp
            refine (awake10 _).mono ?_
            rintro x w11 ⟨rfl, hb11⟩
            have hc11 := chain hHeld hb11
            refine hK.out _ _ (fun w' => Below w10.heap.size w10 w') (hc11) (fun _ h => h) (fun hHeld => ?_)
            clear hK K
            try simp only [Act.put, List.getElem_toArray, List.getElem_cons_succ, List.getElem_cons_zero, List.setIfInBounds_toArray, List.set_cons_zero, List.set_cons_succ]
            refine wpAnyH_take (i := 11) (v := ?_) rfl (by kernel_rfl) (by kernel_rfl) (by kernel_rfl) (fun _ _ _ h => h) (Or.inl ⟨by kernel_rfl, ?_⟩) (by assumption) ?_
            rotate_left
            · (intro wS hwS; (try dsimp only at hwS); go_simp; try (first | (with_reducible rfl) | rw [if_pos (by omega)] | rw [if_neg (by omega)]))
            try simp only [Act.put, List.getElem_toArray, List.getElem_cons_succ, List.getElem_cons_zero, List.setIfInBounds_toArray, List.set_cons_zero, List.set_cons_succ]
            refine wpAnyH_take (i := 12) (v := ?_) rfl (by kernel_rfl) (by kernel_rfl) (by kernel_rfl) (fun _ _ _ h => h) (Or.inl ⟨by kernel_rfl, ?_⟩) (by assumption) ?_
            rotate_left
            · (intro wS hwS; (try dsimp only at hwS); go_simp; try (first | (with_reducible rfl) | rw [if_pos (by omega)] | rw [if_neg (by omega)]))
            try simp only [Act.put, List.getElem_toArray, List.getElem_cons_succ, List.getElem_cons_zero, List.setIfInBounds_toArray, List.set_cons_zero, List.set_cons_succ]
            refine wpAnyH_done (by kernel_rfl) ?_ _
            have hbz := chain hbw10 hHeld
            clear k0 k1 k2 k3 m0 m1 m2 m3 ke kf hHeld hc11 hbw10 hb11 her hek hev hfk hfv hfr
            go_wp2_with fail
            go_ret
            exact ⟨rfl, hbz⟩
        · rw [decide_eq_false hrf]
          clear hre hrf HPE HPF HI HOE HOF he6 hf6
          go_wp2_with fail
          refine (awake10 _).mono ?_
          rintro x wz ⟨rfl, hbz⟩
          have hbq := chain hbw6 hbz
          clear hbw6 hbz
          go_wp2_with fail
          go_ret
          exact ⟨rfl, hbq⟩
      · rw [decide_eq_false hre]
        clear hre HPE HPF HI HOE HOF HRF he5 hf5
        go_wp2_with fail
        refine (awake10 _).mono ?_
        rintro x wz ⟨rfl, hbz⟩
        have hbq := chain hbw5 hbz
        clear hbw5 hbz
        go_wp2_with fail
        go_ret
        exact ⟨rfl, hbq⟩

  · go_simp
    refine hK.out _ _ (fun _ => True) trivial (fun _ h => h) (fun hHeld => ?_)
    clear hK K hHeld
    try simp only [Act.put, List.getElem_toArray, List.getElem_cons_succ, List.getElem_cons_zero, List.setIfInBounds_toArray, List.set_cons_zero, List.set_cons_succ]
    refine region_one 0 (by kernel_rfl) rfl (fun K hK => ?_)
    go_simp
    refine hK.out _ _ (fun _ => True) trivial (fun _ h => h) (fun hHeld => ?_)
    clear hK K hHeld
    try simp only [Act.put, List.getElem_toArray, List.getElem_cons_succ, List.getElem_cons_zero, List.setIfInBounds_toArray, List.set_cons_zero, List.set_cons_succ]
    refine region_one 1 (by kernel_rfl) rfl (fun K hK => ?_)
    go_simp
    refine (HCE.out _).mono ?_
    rintro x wa ⟨rfl, hba⟩
    have hatea := at_below hate1 hba
    have hatfa := at_below hatf1 hba
    obtain ⟨k0, k1, k2, k3⟩ := cells4 hatea
    obtain ⟨m0, m1, m2, m3⟩ := cells4 hatfa
    refine hK.out _ _ (fun _ => True) trivial (fun _ h => h) (fun hHeld => ?_)
    clear hK K hHeld
    try simp only [Act.put, List.getElem_toArray, List.getElem_cons_succ, List.getElem_cons_zero, List.setIfInBounds_toArray, List.set_cons_zero, List.set_cons_succ]
    refine region_one 3 (by kernel_rfl) rfl (fun K hK => ?_)
    go_simp
    refine (HCF.out _).mono ?_
    rintro x wb ⟨rfl, hbb⟩
    have hateb := at_below hatea hbb
    have hatfb := at_below hatfa hbb
    refine hK.out _ _ (fun _ => True) trivial (fun _ h => h) (fun hHeld => ?_)
    clear hK K hHeld
    try simp only [Act.put, List.getElem_toArray, List.getElem_cons_succ, List.getElem_cons_zero, List.setIfInBounds_toArray, List.set_cons_zero, List.set_cons_succ]
    have hbw2 := chain (chain hb1 hba) hbb
    clear k0 k1 k2 k3 m0 m1 m2 m3 hate1 hatf1 hb1 hba hbb HCE HCF hatea hatfa
    obtain ⟨p0, p1, p2, p3⟩ := frozen4 hateb
    obtain ⟨c0, c1, c2, c3⟩ := cells4 hateb
    refine region_one 4 (by kernel_rfl) rfl (fun K hK => ?_)
    go_simp
    obtain ⟨he3, hG3⟩ := put4 hateb (.string ek2) (.string ev2) (.int .i64 er2) (.bool eg2)
    have hf3 := only_at hG3 hatfb (by omega)
    have hbw3 := chainG hbw2 hG3 (Nat.le_refl _)
    generalize World.setCell _ ⟨w.heap.size, 3, none⟩ (Value.bool eg2) = w3 at *
    clear p0 p1 p2 p3 c0 c1 c2 c3 hG3 hateb hatfb hbw2
    refine hK.out _ _ (fun _ => True) trivial (fun _ h => h) (fun hHeld => ?_)
    clear hK K hHeld
    try simp only [Act.put, List.getElem_toArray, List.getElem_cons_succ, List.getElem_cons_zero, List.setIfInBounds_toArray, List.set_cons_zero, List.set_cons_succ]
    obtain ⟨p0, p1, p2, p3⟩ := frozen4 hf3
    obtain ⟨c0, c1, c2, c3⟩ := cells4 hf3
    refine region_one 5 (by kernel_rfl) rfl (fun K hK => ?_)
    go_simp
    obtain ⟨hf4, hG4⟩ := put4 hf3 (.string fk2) (.string fv2) (.int .i64 fr2) (.bool fg2)
    have he4 := only_at hG4 he3 (by omega)
    have hbw4 := chainG hbw3 hG4 (Nat.le_succ _)
    generalize World.setCell _ ⟨w.heap.size + 1, 3, none⟩ (Value.bool fg2) = w4 at *
    clear p0 p1 p2 p3 c0 c1 c2 c3 hG4 hf3 he3 hbw3
    refine hK.out _ _ (fun _ => True) trivial (fun _ h => h) (fun hHeld => ?_)
    clear hK K hHeld
    try simp only [Act.put, List.getElem_toArray, List.getElem_cons_succ, List.getElem_cons_zero, List.setIfInBounds_toArray, List.set_cons_zero, List.set_cons_succ]
    refine wpAnyH_done (by kernel_rfl) ?_ _
    obtain ⟨k0, k1, k2, k3⟩ := cells4 he4
    go_wp2_with fail
    refine (HRE.out _).mono ?_
    rintro x w5 ⟨rfl, hb5⟩
    have he5 := at_below he4 hb5
    have hf5 := at_below hf4 hb5
    have hbw5 := chain hbw4 hb5
    clear he4 hf4 hbw4 hb5 k0 k1 k2 k3 HRE
    by_cases hre : Eff.right ⟨ek2, ev2, er2, eg2⟩
    · rw [decide_eq_true hre]
      obtain ⟨k0, k1, k2, k3⟩ := cells4 hf5
      go_wp2_with fail
      refine (HRF.out _).mono ?_
      rintro x w6 ⟨rfl, hb6⟩
      have he6 := at_below he5 hb6
      have hf6 := at_below hf5 hb6
      have hbw6 := chain hbw5 hb6
      clear he5 hf5 hbw5 hb6 k0 k1 k2 k3 HRF
      by_cases hrf : Eff.right ⟨fk2, fv2, fr2, fg2⟩
      · rw [decide_eq_true hrf]
        have HPE1 := Lib.hid (fun w => HPE.out w hre)
        have HPF1 := Lib.hid (fun w => HPF.out w hrf)
        have HI1 := Lib.hid (HI.out hre hrf)
        clear hre hrf HPE HPF HI
        obtain ⟨k0, k1, k2, k3⟩ := cells4 he6
        go_wp2_with fail
        refine (HOE.out _).mono ?_
        rintro x w7 ⟨rfl, hb7⟩
        have he7 := at_below he6 hb7
        have hf7 := at_below hf6 hb7
        have hbw7 := chain hbw6 hb7
        clear he6 hf6 hbw6 hb7 k0 k1 k2 k3 HOE
        go_wp2_with fail
        refine (HPE1.out _).mono ?_
        rintro x w8 ⟨A8, c8, rfl, hown8, hb8⟩
        have he8 := at_below he7 hb8
        have hf8 := at_below hf7 hb8
        have hbw8 := chain hbw7 hb8
        clear he7 hf7 hbw7 hb8 HPE1
        obtain ⟨k0, k1, k2, k3⟩ := cells4 hf8
        go_wp2_with fail
        refine (HOF.out _).mono ?_
        rintro x w9 ⟨rfl, hb9⟩
        have he9 := at_below he8 hb9
        have hf9 := at_below hf8 hb9
        have hbw9 := chain hbw8 hb9
        have hown9 := hown8.below hb9
        clear he8 hf8 hbw8 hb9 hown8 k0 k1 k2 k3 HOF
        go_wp2_with fail
        refine (HPF1.out _).mono ?_
        rintro x w10 ⟨A10, c10, rfl, hown10, hb10⟩
        have he10 := at_below he9 hb10
        have hf10 := at_below hf9 hb10
        have hbw10 := chain hbw9 hb10
        have hown11 := hown9.below hb10
        clear he9 hf9 hbw9 hb10 hown9 HPF1
        have k0 : ∀ w', Below w10.heap.size w10 w' → _ := fun w' hb => (cells4 (at_below he10 hb)).1
        have k1 : ∀ w', Below w10.heap.size w10 w' → _ := fun w' hb => (cells4 (at_below he10 hb)).2.1
        have k2 : ∀ w', Below w10.heap.size w10 w' → _ := fun w' hb => (cells4 (at_below he10 hb)).2.2.1
        have k3 : ∀ w', Below w10.heap.size w10 w' → _ := fun w' hb => (cells4 (at_below he10 hb)).2.2.2
        have m0 : ∀ w', Below w10.heap.size w10 w' → _ := fun w' hb => (cells4 (at_below hf10 hb)).1
        have m1 : ∀ w', Below w10.heap.size w10 w' → _ := fun w' hb => (cells4 (at_below hf10 hb)).2.1
        have m2 : ∀ w', Below w10.heap.size w10 w' → _ := fun w' hb => (cells4 (at_below hf10 hb)).2.2.1
        have m3 : ∀ w', Below w10.heap.size w10 w' → _ := fun w' hb => (cells4 (at_below hf10 hb)).2.2.2
        have ke : ∀ w', Below w10.heap.size w10 w' → _ := fun w' hb => conv_str (hown11.rd.below hb)
        have kf : ∀ w', Below w10.heap.size w10 w' → _ := fun w' hb => conv_str (hown10.rd.below hb)
        clear he10 hf10 hown10 hown11 hlen hlenf
        by_cases hef : (⟨ek2, ev2, er2, eg2⟩ : Eff) = ⟨fk2, fv2, fr2, fg2⟩
        · obtain rfl := HLL.out hef
          injection hef with q1 q2 q3 q4
          subst q1 q2 q3 q4
          clear HI1 HLL
          go_wp2_with fail
          refine region_begin (fun w' => Below w10.heap.size w10 w') (by kernel_rfl) (Below.drew (Below.refl _ _)) (fun hHeld => ?_)
          refine wpAnyH_take (i := 0) (v := ?_) rfl (by kernel_rfl) (by kernel_rfl) (by kernel_rfl) (fun _ _ _ h => h) (Or.inl ⟨by kernel_rfl, ?_⟩) (by assumption) ?_
          rotate_left
          · (intro wS hwS; (try dsimp only at hwS); go_simp; try (first | (with_reducible rfl) | rw [if_pos (by omega)] | rw [if_neg (by omega)]))
          try simp only [Act.put, List.getElem_toArray, List.getElem_cons_succ, List.getElem_cons_zero, List.setIfInBounds_toArray, List.set_cons_zero, List.set_cons_succ]
          refine wpAnyH_take (i := 1) (v := ?_) rfl (by kernel_rfl) (by kernel_rfl) (by kernel_rfl) (fun _ _ _ h => h) (Or.inl ⟨by kernel_rfl, ?_⟩) (by assumption) ?_
          rotate_left
          · (intro wS hwS; (try dsimp only at hwS); go_simp; try (first | (with_reducible rfl) | rw [if_pos (by omega)] | rw [if_neg (by omega)]))
          try simp only [Act.put, List.getElem_toArray, List.getElem_cons_succ, List.getElem_cons_zero, List.setIfInBounds_toArray, List.set_cons_zero, List.set_cons_succ]
          refine wpAnyH_take (i := 2) (v := ?_) rfl (by kernel_rfl) (by kernel_rfl) (by kernel_rfl) (fun _ _ _ h => h) (Or.inl ⟨by kernel_rfl, ?_⟩) (by assumption) ?_
          rotate_left
          · (intro wS hwS; (try dsimp only at hwS); go_simp; try (first | (with_reducible rfl) | rw [if_pos (by omega)] | rw [if_neg (by omega)]))
          try simp only [Act.put, List.getElem_toArray, List.getElem_cons_succ, List.getElem_cons_zero, List.setIfInBounds_toArray, List.set_cons_zero, List.set_cons_succ]
          refine wpAnyH_take (i := 3) (v := ?_) rfl (by kernel_rfl) (by kernel_rfl) (by kernel_rfl) (fun _ _ _ h => h) (Or.inl ⟨by kernel_rfl, ?_⟩) (by assumption) ?_
          rotate_left
          · (intro wS hwS; (try dsimp only at hwS); go_simp; try (first | (with_reducible rfl) | rw [if_pos (by omega)] | rw [if_neg (by omega)]))
          try simp only [Act.put, List.getElem_toArray, List.getElem_cons_succ, List.getElem_cons_zero, List.setIfInBounds_toArray, List.set_cons_zero, List.set_cons_succ]
          refine wpAnyH_take (i := 4) (v := ?_) rfl (by kernel_rfl) (by kernel_rfl) (by kernel_rfl) (fun _ _ _ h => h) (Or.inl ⟨by kernel_rfl, ?_⟩) (by assumption) ?_
          rotate_left
          · (intro wS hwS; (try dsimp only at hwS); go_simp; try (first | (with_reducible rfl) | rw [if_pos (by omega)] | rw [if_neg (by omega)]))
          try simp only [Act.put, List.getElem_toArray, List.getElem_cons_succ, List.getElem_cons_zero, List.setIfInBounds_toArray, List.set_cons_zero, List.set_cons_succ]
          refine wpAnyH_take (i := 5) (v := ?_) rfl (by kernel_rfl) (by kernel_rfl) (by kernel_rfl) (fun _ _ _ h => h) (Or.inl ⟨by kernel_rfl, ?_⟩) (by assumption) ?_
          rotate_left
          · (intro wS hwS; (try dsimp only at hwS); go_simp; try (first | (with_reducible rfl) | rw [if_pos (by omega)] | rw [if_neg (by omega)]))
          try simp only [Act.put, List.getElem_toArray, List.getElem_cons_succ, List.getElem_cons_zero, List.setIfInBounds_toArray, List.set_cons_zero, List.set_cons_succ]
          refine wpAnyH_take (i := 6) (v := ?_) rfl (by kernel_rfl) (by kernel_rfl) (by kernel_rfl) (fun _ _ _ h => h) (Or.inl ⟨by kernel_rfl, ?_⟩) (by assumption) ?_
          rotate_left
          · (intro wS hwS; (try dsimp only at hwS); go_simp; try (first | (with_reducible rfl) | rw [if_pos (by omega)] | rw [if_neg (by omega)]))
          try simp only [Act.put, List.getElem_toArray, List.getElem_cons_succ, List.getElem_cons_zero, List.setIfInBounds_toArray, List.set_cons_zero, List.set_cons_succ]
          refine wpAnyH_take (i := 7) (v := ?_) rfl (by kernel_rfl) (by kernel_rfl) (by kernel_rfl) (fun _ _ _ h => h) (Or.inl ⟨by kernel_rfl, ?_⟩) (by assumption) ?_
          rotate_left
          · (intro wS hwS; (try dsimp only at hwS); go_simp; try (first | (with_reducible rfl) | rw [if_pos (by omega)] | rw [if_neg (by omega)]))
          try simp only [Act.put, List.getElem_toArray, List.getElem_cons_succ, List.getElem_cons_zero, List.setIfInBounds_toArray, List.set_cons_zero, List.set_cons_succ]
          refine wpAnyH_take (i := 8) (v := ?_) rfl (by kernel_rfl) (by kernel_rfl) (by kernel_rfl) (fun _ _ _ h => h) (Or.inl ⟨by kernel_rfl, ?_⟩) (by assumption) ?_
          rotate_left
          · (intro wS hwS; (try dsimp only at hwS); go_simp; try (first | (with_reducible rfl) | rw [if_pos (by omega)] | rw [if_neg (by omega)]))
          try simp only [Act.put, List.getElem_toArray, List.getElem_cons_succ, List.getElem_cons_zero, List.setIfInBounds_toArray, List.set_cons_zero, List.set_cons_succ]
          refine wpAnyH_take (i := 9) (v := ?_) rfl (by kernel_rfl) (by kernel_rfl) (by kernel_rfl) (fun _ _ _ h => h) (Or.inl ⟨by kernel_rfl, ?_⟩) (by assumption) ?_
          rotate_left
          · (intro wS hwS; (try dsimp only at hwS); go_simp; try (first | (with_reducible rfl) | rw [if_pos (by omega)] | rw [if_neg (by omega)]))
          try simp only [Act.put, List.getElem_toArray, List.getElem_cons_succ, List.getElem_cons_zero, List.setIfInBounds_toArray, List.set_cons_zero, List.set_cons_succ]
          refine region_one 10 (by kernel_rfl) rfl (fun K hK => ?_)
          go_simp
          refine (awake10 _).mono ?_
          rintro x w11 ⟨rfl, hb11⟩
          have hc11 := chain hHeld hb11
          refine hK.out _ _ (fun w' => Below w10.heap.size w10 w') (hc11) (fun _ h => h) (fun hHeld => ?_)
          clear hK K
          try simp only [Act.put, List.getElem_toArray, List.getElem_cons_succ, List.getElem_cons_zero, List.setIfInBounds_toArray, List.set_cons_zero, List.set_cons_succ]
          refine wpAnyH_take (i := 11) (v := ?_) rfl (by kernel_rfl) (by kernel_rfl) (by kernel_rfl) (fun _ _ _ h => h) (Or.inl ⟨by kernel_rfl, ?_⟩) (by assumption) ?_
          rotate_left
          · (intro wS hwS; (try dsimp only at hwS); go_simp; try (first | (with_reducible rfl) | rw [if_pos (by omega)] | rw [if_neg (by omega)]))
          try simp only [Act.put, List.getElem_toArray, List.getElem_cons_succ, List.getElem_cons_zero, List.setIfInBounds_toArray, List.set_cons_zero, List.set_cons_succ]
          refine wpAnyH_take (i := 12) (v := ?_) rfl (by kernel_rfl) (by kernel_rfl) (by kernel_rfl) (fun _ _ _ h => h) (Or.inl ⟨by kernel_rfl, ?_⟩) (by assumption) ?_
          rotate_left
          · (intro wS hwS; (try dsimp only at hwS); go_simp; try (first | (with_reducible rfl) | rw [if_pos (by omega)] | rw [if_neg (by omega)]))
          try simp only [Act.put, List.getElem_toArray, List.getElem_cons_succ, List.getElem_cons_zero, List.setIfInBounds_toArray, List.set_cons_zero, List.set_cons_succ]
          refine wpAnyH_done (by kernel_rfl) ?_ _
          have hbz := chain hbw10 hHeld
          clear k0 k1 k2 k3 m0 m1 m2 m3 ke kf hHeld hc11 hbw10 hb11 her hek hev hfk hfv hfr
          go_wp2_with fail
          go_ret
          exact ⟨rfl, hbz⟩
        · skip
          have hLne : (Le == Lf) = false := by
            rw [beq_eq_false_iff_ne]
            exact fun h => hef (HI1.out h)
          clear HI1 HLL
          have HN := Lib.hid hef
          clear hef
          go_wp2_with fail
          refine region_begin (fun w' => Below w10.heap.size w10 w') (by kernel_rfl) (Below.drew (Below.refl _ _)) (fun hHeld => ?_)
          refine wpAnyH_take (i := 0) (v := ?_) rfl (by kernel_rfl) (by kernel_rfl) (by kernel_rfl) (fun _ _ _ h => h) (Or.inl ⟨by kernel_rfl, ?_⟩) (by assumption) ?_
          rotate_left
          · (intro wS hwS; (try dsimp only at hwS); go_simp; try (first | (with_reducible rfl) | rw [if_pos (by omega)] | rw [if_neg (by omega)]))
          try simp only [Act.put, List.getElem_toArray, List.getElem_cons_succ, List.getElem_cons_zero, List.setIfInBounds_toArray, List.set_cons_zero, List.set_cons_succ]
          refine wpAnyH_take (i := 1) (v := ?_) rfl (by kernel_rfl) (by kernel_rfl) (by kernel_rfl) (fun _ _ _ h => h) (Or.inl ⟨by kernel_rfl, ?_⟩) (by assumption) ?_
          rotate_left
          · (intro wS hwS; (try dsimp only at hwS); go_simp; try (first | (with_reducible rfl) | rw [if_pos (by omega)] | rw [if_neg (by omega)]))
          try simp only [Act.put, List.getElem_toArray, List.getElem_cons_succ, List.getElem_cons_zero, List.setIfInBounds_toArray, List.set_cons_zero, List.set_cons_succ]
          refine wpAnyH_take (i := 2) (v := ?_) rfl (by kernel_rfl) (by kernel_rfl) (by kernel_rfl) (fun _ _ _ h => h) (Or.inl ⟨by kernel_rfl, ?_⟩) (by assumption) ?_
          rotate_left
          · (intro wS hwS; (try dsimp only at hwS); go_simp; try (first | (with_reducible rfl) | rw [if_pos (by omega)] | rw [if_neg (by omega)]))
          try simp only [Act.put, List.getElem_toArray, List.getElem_cons_succ, List.getElem_cons_zero, List.setIfInBounds_toArray, List.set_cons_zero, List.set_cons_succ]
          refine wpAnyH_take (i := 3) (v := ?_) rfl (by kernel_rfl) (by kernel_rfl) (by kernel_rfl) (fun _ _ _ h => h) (Or.inl ⟨by kernel_rfl, ?_⟩) (by assumption) ?_
          rotate_left
          · (intro wS hwS; (try dsimp only at hwS); go_simp; try (first | (with_reducible rfl) | rw [if_pos (by omega)] | rw [if_neg (by omega)]))
          try simp only [Act.put, List.getElem_toArray, List.getElem_cons_succ, List.getElem_cons_zero, List.setIfInBounds_toArray, List.set_cons_zero, List.set_cons_succ]
          refine wpAnyH_take (i := 4) (v := ?_) rfl (by kernel_rfl) (by kernel_rfl) (by kernel_rfl) (fun _ _ _ h => h) (Or.inl ⟨by kernel_rfl, ?_⟩) (by assumption) ?_
          rotate_left
          · (intro wS hwS; (try dsimp only at hwS); go_simp; try (first | (with_reducible rfl) | rw [if_pos (by omega)] | rw [if_neg (by omega)]))
          try simp only [Act.put, List.getElem_toArray, List.getElem_cons_succ, List.getElem_cons_zero, List.setIfInBounds_toArray, List.set_cons_zero, List.set_cons_succ]
          refine wpAnyH_take (i := 5) (v := ?_) rfl (by kernel_rfl) (by kernel_rfl) (by kernel_rfl) (fun _ _ _ h => h) (Or.inl ⟨by kernel_rfl, ?_⟩) (by assumption) ?_
          rotate_left
          · (intro wS hwS; (try dsimp only at hwS); go_simp; try (first | (with_reducible rfl) | rw [if_pos (by omega)] | rw [if_neg (by omega)]))
          try simp only [Act.put, List.getElem_toArray, List.getElem_cons_succ, List.getElem_cons_zero, List.setIfInBounds_toArray, List.set_cons_zero, List.set_cons_succ]
          refine wpAnyH_take (i := 6) (v := ?_) rfl (by kernel_rfl) (by kernel_rfl) (by kernel_rfl) (fun _ _ _ h => h) (Or.inl ⟨by kernel_rfl, ?_⟩) (by assumption) ?_
          rotate_left
          · (intro wS hwS; (try dsimp only at hwS); go_simp; try (first | (with_reducible rfl) | rw [if_pos (by omega)] | rw [if_neg (by omega)]))
          try simp only [Act.put, List.getElem_toArray, List.getElem_cons_succ, List.getElem_cons_zero, List.setIfInBounds_toArray, List.set_cons_zero, List.set_cons_succ]
          refine wpAnyH_take (i := 7) (v := ?_) rfl (by kernel_rfl) (by kernel_rfl) (by kernel_rfl) (fun _ _ _ h => h) (Or.inl ⟨by kernel_rfl, ?_⟩) (by assumption) ?_
          rotate_left
          · (intro wS hwS; (try dsimp only at hwS); go_simp; exact eff_nest HN.out _ _)
          try simp only [Act.put, List.getElem_toArray, List.getElem_cons_succ, List.getElem_cons_zero, List.setIfInBounds_toArray, List.set_cons_zero, List.set_cons_succ]
          refine wpAnyH_take (i := 8) (v := ?_) rfl (by kernel_rfl) (by kernel_rfl) (by kernel_rfl) (fun _ _ _ h => h) (Or.inl ⟨by kernel_rfl, ?_⟩) (by assumption) ?_
          rotate_left
          · (intro wS hwS; (try dsimp only at hwS); go_simp; try (first | (with_reducible rfl) | rw [if_pos (by omega)] | rw [if_neg (by omega)]))
          try simp only [Act.put, List.getElem_toArray, List.getElem_cons_succ, List.getElem_cons_zero, List.setIfInBounds_toArray, List.set_cons_zero, List.set_cons_succ]
          refine wpAnyH_take (i := 9) (v := ?_) rfl (by kernel_rfl) (by kernel_rfl) (by kernel_rfl) (fun _ _ _ h => h) (Or.inl ⟨by kernel_rfl, ?_⟩) (by assumption) ?_
          rotate_left
          · (intro wS hwS; (try dsimp only at hwS); go_simp; try (first | (with_reducible rfl) | rw [if_pos (by omega)] | rw [if_neg (by omega)]))
          try simp only [Act.put, List.getElem_toArray, List.getElem_cons_succ, List.getElem_cons_zero, List.setIfInBounds_toArray, List.set_cons_zero, List.set_cons_succ]
          refine region_one 10 (by kernel_rfl) rfl (fun K hK => ?_)
          go_simp
          refine (awake10 _).mono ?_
          rintro x w11 ⟨rfl, hb11⟩
          have hc11 := chain hHeld hb11
          refine hK.out _ _ (fun w' => Below w10.heap.size w10 w') (hc11) (fun _ h => h) (fun hHeld => ?_)
          clear hK K
          try simp only [Act.put, List.getElem_toArray, List.getElem_cons_succ, List.getElem_cons_zero, List.setIfInBounds_toArray, List.set_cons_zero, List.set_cons_succ]
          refine wpAnyH_take (i := 11) (v := ?_) rfl (by kernel_rfl) (by kernel_rfl) (by kernel_rfl) (fun _ _ _ h => h) (Or.inl ⟨by kernel_rfl, ?_⟩) (by assumption) ?_
          rotate_left
          · (intro wS hwS; (try dsimp only at hwS); go_simp; try (first | (with_reducible rfl) | rw [if_pos (by omega)] | rw [if_neg (by omega)]))
          try simp only [Act.put, List.getElem_toArray, List.getElem_cons_succ, List.getElem_cons_zero, List.setIfInBounds_toArray, List.set_cons_zero, List.set_cons_succ]
          refine wpAnyH_take (i := 12) (v := ?_) rfl (by kernel_rfl) (by kernel_rfl) (by kernel_rfl) (fun _ _ _ h => h) (Or.inl ⟨by kernel_rfl, ?_⟩) (by assumption) ?_
          rotate_left
          · (intro wS hwS; (try dsimp only at hwS); go_simp; try (first | (with_reducible rfl) | rw [if_pos (by omega)] | rw [if_neg (by omega)]))
          try simp only [Act.put, List.getElem_toArray, List.getElem_cons_succ, List.getElem_cons_zero, List.setIfInBounds_toArray, List.set_cons_zero, List.set_cons_succ]
          refine wpAnyH_done (by kernel_rfl) ?_ _
          have hbz := chain hbw10 hHeld
          clear k0 k1 k2 k3 m0 m1 m2 m3 ke kf hHeld hc11 hbw10 hb11 her hek hev hfk hfv hfr
          go_wp2_with fail
          go_ret
          exact ⟨rfl, hbz⟩
      · rw [decide_eq_false hrf]
        clear hre hrf HPE HPF HI HOE HOF he6 hf6
        go_wp2_with fail
        refine (awake10 _).mono ?_
        rintro x wz ⟨rfl, hbz⟩
        have hbq := chain hbw6 hbz
        clear hbw6 hbz
        go_wp2_with fail
        go_ret
        exact ⟨rfl, hbq⟩
    · rw [decide_eq_false hre]
      clear hre HPE HPF HI HOE HOF HRF he5 hf5
      go_wp2_with fail
      refine (awake10 _).mono ?_
      rintro x wz ⟨rfl, hbz⟩
      have hbq := chain hbw5 hbz
      clear hbw5 hbz
      go_wp2_with fail
      go_ret
      exact ⟨rfl, hbq⟩

end Go.Proofs.Ytcpkaolfafeojaa
