
/- Chapter 7: one call on both logs answers alike and leaves both alike. -/
import Derived.Test.YtmoijbknjadeeaaWalBoth
namespace Go.Proofs.Ytmoijbknjadeeaa
set_option linter.unusedVariables false
set_option linter.unusedSimpArgs false
open Go.RowKit
structure Op7 where
  kind : Int
  P : Option Addr
  pn : Nat
  pc : Nat
  n : Int
  A : Option Addr
  kn : Nat
  kc : Nat
def Op7.row (o : Op7) : List Value := [.int .i64 o.kind, .slice o.P o.pn o.pc, .int .i64 o.n, .slice o.A o.kn o.kc]
def Op7.v (o : Op7) : Value := .agg #[.int .i64 o.kind, .slice o.P o.pn o.pc, .int .i64 o.n, .slice o.A o.kn o.kc]
theorem Op7.row_length (o : Op7) : o.row.length = 4 := rfl
/-- what a call's numbers and rows are -/
def Op7.keeps (W : World) (B : Nat) (o : Op7) : Prop := ((-9223372036854775808 ≤ o.kind ∧ o.kind < 9223372036854775808) ∧ (-9223372036854775808 ≤ o.n ∧ o.n < 9223372036854775808)) ∧ (∃ pl, RdB W B o.P o.pn o.pc pl) ∧ ∃ ks : List Nat, RdK W B o.A o.kn o.kc ks ∧ ∀ x ∈ ks, x < 65536
theorem wa_ok {s : WL} {M K : Nat} (ho : s.d.Ok M K) (hs : 0 ≤ s.sz ∧ s.sz ≤ (M : Int)) {p : List UInt8} (hp : p.length ≤ 40) : (waP s wF p).2.d.Ok (M + 48) (K + 1) ∧ 0 ≤ (waP s wF p).2.sz ∧ (waP s wF p).2.sz ≤ ((M + 48 : Nat) : Int) := by
  have h0 : s.d.Ok (M + 48) (K + 1) := ho.mono (by omega) (by omega)
  have hz : 0 ≤ s.sz ∧ s.sz ≤ ((M + 48 : Nat) : Int) := ⟨hs.1, by omega⟩
  unfold waP
  split
  · exact ⟨h0, hz⟩
  · split
    · exact ⟨h0, hz⟩
    · refine ⟨?_, ?_⟩
      · show (s.d.out (laO s.d wF p)).Ok _ _
        have h1 := (ok_ap ho wF wF_hi (frameL p)).mono (show M + (frameL p).length ≤ M + 48 by rw [frameL_length]; omega) (Nat.le_refl (K + 1))
        unfold laO
        split
        · exact ok_sy h1 wF wF_hi
        · exact h1
      · simp only
        split <;> omega
theorem wc_ok {s : WL} {M K : Nat} (ho : s.d.Ok M K) (hs : 0 ≤ s.sz ∧ s.sz ≤ (M : Int)) : (wcP s wF).2.d.Ok (M + 48) (K + 1) ∧ 0 ≤ (wcP s wF).2.sz ∧ (wcP s wF).2.sz ≤ ((M + 48 : Nat) : Int) := by
  have h0 : s.d.Ok (M + 48) (K + 1) := ho.mono (by omega) (by omega)
  have hz : 0 ≤ s.sz ∧ s.sz ≤ ((M + 48 : Nat) : Int) := ⟨hs.1, by omega⟩
  have h1 : (s.d.out (s.d.cuO wF 0)).Ok (M + 48) (K + 1) := ok_cu h0 wF 0 wF_hi
  unfold wcP
  split
  · exact ⟨h0, hz⟩
  · split
    · exact ⟨h1, by simp only; omega⟩
    · exact ⟨h1, hz⟩
section
variable {w w' w2 : World} {B gb gd bd gr N N' gl gq M K : Nat} {s s' : WL}
theorem BB.pw (h : BB w B gb gd bd gr N gl gq s) : IsW w gl gd bd N wF s := ⟨h.lg, h.bd.dk⟩
theorem BB.pv (h : BB w B gb gd bd gr N gl gq s) : IsV w gq gr wF s := ⟨h.rl, h.bd.rf⟩
/-- the program's log is turned -/
theorem BB.prog (h : BB w B gb gd bd gr N gl gq s) (hm : Mod (fun i _ => i = gl ∨ i = gd ∨ i = bd) w w') :
    At w' gb 72 [.pointer (some ⟨gd, 0, none⟩), .pointer (some ⟨gl, 0, none⟩), .pointer (some ⟨gr, 0, none⟩), .pointer (some ⟨gq, 0, none⟩)] ∧ IsV w' gq gr wF s ∧ Below B w w' := by
  have n1 : ¬ gb = gl := At.ne h.bd.bt h.lg (by decide)
  have n2 := h.bd.dk.freeAt h.bd.bt (by decide)
  have n3 : ¬ gq = gl := At.ne h.rl h.lg (by decide)
  have n4 := h.bd.dk.freeAt h.rl (by decide)
  obtain ⟨A, c, e1, e2⟩ := IsRf.ex h.bd.rf
  have n5 : ¬ gr = gl := At.ne e1 h.lg (by decide)
  have n6 := h.bd.dk.freeAt e1 (by decide)
  refine ⟨hm.at h.bd.bt (by omega), ⟨hm.at h.rl (by omega), h.bd.rf.mods hm (fun o => by omega) ?_⟩, mod3w hm h.lo.1 h.bd.lo.2.1 h.bd.lo.2.2.1 h.bd.hw⟩
  rintro i o ho hit (rfl | e)
  · exact absurd rfl (isT_at h.lg ho hit (by decide))
  · exact h.bd.dk.free ho hit (by decide) e
/-- then the document's -/
theorem BB.doc (h : BB w B gb gd bd gr N gl gq s) (hm : Mod (fun i _ => i = gl ∨ i = gd ∨ i = bd) w w') (hw : IsW w' gl gd bd N' wF s') (hm2 : Mod (fun i _ => i = gq ∨ i = gr) w' w2) (hv : IsV w2 gq gr wF s') :
    BB w2 B gb gd bd gr N' gl gq s' ∧ Below B w w2 := by
  obtain ⟨h1, h2, h3⟩ := h.prog hm
  have n1 : ¬ gb = gq := At.ne h1 h2.lg (by decide)
  have n2 := h2.dk.freeAt h1 (by decide)
  have n3 : ¬ gl = gq := At.ne hw.lg h2.lg (by decide)
  have n4 := h2.dk.freeAt hw.lg (by decide)
  obtain ⟨A, c, e1, e2⟩ := IsRf.ex h2.dk
  have n5 := hw.dk.freeAt e1 (by decide)
  have n6 := hw.dk.freeAt h2.lg (by decide)
  have hB : Below B w' w2 := hm2.toBelow (fun i o hi e => by have := h.lo.2; have := h.bd.lo.2.2.2; omega) (Nat.le_trans h.bd.hw hm.size)
  refine ⟨⟨⟨hm2.at h1 (by omega), hw.dk.mods hm2 (fun o => by omega) (fun o => by omega) ?_, hv.dk, h.bd.lo, Nat.le_trans (Nat.le_trans h.bd.hw hm.size) hm2.size⟩, hm2.at hw.lg (by omega), hv.lg, h.lo⟩, h3.trans hB⟩
  rintro i o ho hit (rfl | rfl)
  · exact absurd rfl (isT_at h2.lg ho hit (by decide))
  · exact absurd rfl (isT_at e1 ho hit (by decide))
def ST7 (w w' : World) (B gb gd bd gr N M K : Nat) (x : Ending) : Prop :=
  x = .returned (.bool true) ∧ Below B w w' ∧ ∃ N' gl gq s, N' ≤ N + 48 ∧ s.d.Ok (M + 48) (K + 1) ∧ 0 ≤ s.sz ∧ s.sz ≤ ((M + 48 : Nat) : Int) ∧ BB w' B gb gd bd gr N' gl gq s
theorem ST7.of {x : Ending} {d : PD} (hx : x = .returned (.bool true)) (hk : K ≤ 40) (hNN : N' ≤ N + 44) (hs : 0 ≤ s.sz ∧ s.sz ≤ (M : Int)) (h0 : Below B w w') (h : OP w' w2 B gb gd bd gr N' M K d (some ⟨gl, 0, none⟩) (some ⟨gq, 0, none⟩))
    (hl : IsLg w' gl gd wF s.sz s.dead) (hq : IsRl w' gq gr wF (if s.dead then 0 else s.sz) s.dead) (hlo : B ≤ gl ∧ B ≤ gq) : ST7 w w2 B gb gd bd gr N M K x := by
  obtain ⟨hb, h⟩ := h
  refine ⟨hx, h0.trans hb, ?_⟩
  rcases h with ⟨gl', gq', s', hd, h1, h2, h3, h4⟩ | ⟨_, d', h1, h2, h3, h4⟩
  · exact ⟨N' + 1, gl', gq', s', by omega, h3.mono (by omega) (by omega), h1, by omega, h4⟩
  · exact ⟨N' + 1, gl, gq, ⟨d', s.sz, s.dead⟩, by omega, h1.mono (by omega) (by omega), hs.1, by simp only; omega, h2, h3 _ _ _ hl, h4 _ _ _ hq, hlo⟩
set_option maxRecDepth 100000 in
set_option maxHeartbeats 8000000 in
theorem step7_any (op : Op7) (w : World) (h : BB w B gb gd bd gr N gl gq s) (hop : op.keeps w B) (ho : s.d.Ok M K) (hs : 0 ≤ s.sz ∧ s.sz ≤ (M : Int)) (hM : M ≤ 100000) (hK : K ≤ 40) (hN : N ≤ 50000) :
    Calls Try.prog 41 #[.pointer (some ⟨gb, 0, none⟩), op.v] w fun x w' => ST7 w w' B gb gd bd gr N M K x := by
  obtain ⟨ki, P, pn, pc, n, A, kn, kc⟩ := op
  obtain ⟨⟨hf0, hf1⟩, ⟨pl, hpl⟩, ks, hks, hkx⟩ := hop
  unfold Op7.v
  simp only at hf0 hf1 hpl hks ⊢
  have HCUT := fun v (hb : Below B w v) => cut07 P pn pc B pl v (hpl.below hb)
  have hp := hpl.take07 40
  have hp40 : (pl.take 40).length ≤ 40 := by rw [List.length_take]; omega
  generalize pl.take 40 = p at *
  have HP0 := Lib.hid hp
  have HBW := Lib.hid h.bd.hw
  have HKS := Lib.hid hks
  have HKX := Lib.hid hkx
  clear hks hkx hp hpl
  have hB : Below B w w := Below.refl _ _
  go_enter Try.func41, Try.ntmps41
  go_upto_region 1 with fail
  obtain ⟨h5, hb1⟩ := one_at w 74 [.int .i64 ki, .slice P pn pc, .int .i64 n, .slice A kn kc]
  replace hB := hB.trans (hb1.mono h.bd.hw)
  replace h := h.step hb1
  clear hb1
  generalize World.alloc _ _ = w1 at *
  obtain ⟨g5, hg5⟩ : ∃ g5, w.heap.size = g5 := ⟨_, rfl⟩
  have hg5B : B ≤ g5 := by rw [← hg5]; exact HBW.out
  rw [hg5] at h5 ⊢
  obtain ⟨⟨y0, y1, y2, y3⟩, yf⟩ := at4 h5
  obtain ⟨⟨x0, x1, x2, x3⟩, xf⟩ := at4 h.bd.bt
  have HC1 := HCUT w1 hB
  go_upto_region 3 with (((with_reducible refine (HC1).mono ?_); rintro z w2 ⟨rfl, rfl⟩))
  clear HC1 HCUT
  have hgn := h.bd.dk.freeAt h5 (by decide)
  have hgr := h.bd.rf.freeAt h5 (by decide)
  by_cases e0 : ki = 0 ∨ ki = 1 ∨ ki = 2
  · have HP := fun (v : World) (h : IsW v gl gd bd N wF s) (hr : RdB v v.heap.size P p.length pc p) => wapp_any s wF_hi P p.length pc p v h ho (by omega) (by omega) hr (by omega) (by omega)
    have HR := fun (v : World) (h : IsV v gq gr wF s) (hr : RdB v v.heap.size P p.length pc p) => rwapp_any s P p.length pc p v h wF_hi ho (by omega) (by omega) hr (by omega) (by omega)
    have hpr : ∀ v, Below B w v → RdB v v.heap.size P p.length pc p := fun v hb => (HP0.out.below hb).more (Nat.le_trans HBW.out hb.size)
    have hok := wa_ok ho hs hp40
    obtain ⟨o, ho2⟩ : ∃ o, waP s wF p = o := ⟨_, rfl⟩
    rw [ho2] at HP HR hok
    have HOP := Lib.hid hok
    clear hok ho2
    rcases e0 with rfl | rfl | rfl
    ·
      go_upto_region 6 with fail
      have k0 : ∀ w' : World, At w' gb 72 [.pointer (some ⟨gd, 0, none⟩), .pointer (some ⟨gl, 0, none⟩), .pointer (some ⟨gr, 0, none⟩), .pointer (some ⟨gq, 0, none⟩)] → _ := fun w' h => (at4 h).1
      refine region_begin (fun w' : World => At w' gb 72 [.pointer (some ⟨gd, 0, none⟩), .pointer (some ⟨gl, 0, none⟩), .pointer (some ⟨gr, 0, none⟩), .pointer (some ⟨gq, 0, none⟩)]) (by kernel_rfl) (h.bd.bt.drew) (fun hHeld => ?_)
      replace h := h.drew
      replace hB := hB.drew
      clear x0 x1 x2 x3 xf y0 y1 y2 y3 yf h5
      generalize World.drew _ = w6 at *
      refine wpAnyH_take (i := 0) (v := ?_) rfl (by kernel_rfl) (by kernel_rfl) (by kernel_rfl) (fun _ _ _ h => h) (Or.inl ⟨by kernel_rfl, ?_⟩) (by assumption) ?_
      rotate_left
      · (intro wS hwS; (try dsimp only at hwS); go_simp; try (first | (with_reducible rfl) | rw [if_pos (by omega)] | rw [if_neg (by omega)]))
      try simp only [Act.put, List.getElem_toArray, List.getElem_cons_succ, List.getElem_cons_zero, List.setIfInBounds_toArray, List.set_cons_zero, List.set_cons_succ]
      refine wpAnyH_take (i := 1) (v := ?_) rfl (by kernel_rfl) (by kernel_rfl) (by kernel_rfl) (fun _ _ _ h => h) (Or.inl ⟨by kernel_rfl, ?_⟩) (by assumption) ?_
      rotate_left
      · (intro wS hwS; (try dsimp only at hwS); go_simp; try (first | (with_reducible rfl) | rw [if_pos (by omega)] | rw [if_neg (by omega)]))
      try simp only [Act.put, List.getElem_toArray, List.getElem_cons_succ, List.getElem_cons_zero, List.setIfInBounds_toArray, List.set_cons_zero, List.set_cons_succ]
      refine wpAnyH_take (i := 2) (v := ?_) rfl (by kernel_rfl) (by kernel_rfl) (by kernel_rfl) (fun _ _ _ h => h) (Or.inl ⟨by kernel_rfl, ?_⟩) (by assumption) ?_
      rotate_left
      · (intro wS hwS; (try dsimp only at hwS); go_simp; try (first | (with_reducible rfl) | rw [if_pos (by omega)] | rw [if_neg (by omega)]))
      try simp only [Act.put, List.getElem_toArray, List.getElem_cons_succ, List.getElem_cons_zero, List.setIfInBounds_toArray, List.set_cons_zero, List.set_cons_succ]
      refine wpAnyH_take (i := 3) (v := ?_) rfl (by kernel_rfl) (by kernel_rfl) (by kernel_rfl) (fun _ _ _ h => h) (Or.inl ⟨by kernel_rfl, ?_⟩) (by assumption) ?_
      rotate_left
      · (intro wS hwS; (try dsimp only at hwS); go_simp; try (first | (with_reducible rfl) | rw [if_pos (by omega)] | rw [if_neg (by omega)]))
      try simp only [Act.put, List.getElem_toArray, List.getElem_cons_succ, List.getElem_cons_zero, List.setIfInBounds_toArray, List.set_cons_zero, List.set_cons_succ]
      refine wpAnyH_take (i := 4) (v := ?_) rfl (by kernel_rfl) (by kernel_rfl) (by kernel_rfl) (fun _ _ _ h => h) (Or.inl ⟨by kernel_rfl, ?_⟩) (by assumption) ?_
      rotate_left
      · (intro wS hwS; (try dsimp only at hwS); go_simp; try (first | (with_reducible rfl) | rw [if_pos (by omega)] | rw [if_neg (by omega)]))
      try simp only [Act.put, List.getElem_toArray, List.getElem_cons_succ, List.getElem_cons_zero, List.setIfInBounds_toArray, List.set_cons_zero, List.set_cons_succ]
      refine wpAnyH_take (i := 6) (v := ?_) rfl (by kernel_rfl) (by kernel_rfl) (by kernel_rfl) (fun _ _ _ h => h) (Or.inl ⟨by kernel_rfl, ?_⟩) (by assumption) ?_
      rotate_left
      · (intro wS hwS; (try dsimp only at hwS); go_simp; try (first | (with_reducible rfl) | rw [if_pos (by omega)] | rw [if_neg (by omega)]))
      try simp only [Act.put, List.getElem_toArray, List.getElem_cons_succ, List.getElem_cons_zero, List.setIfInBounds_toArray, List.set_cons_zero, List.set_cons_succ]
      refine wpAnyH_take (i := 7) (v := ?_) rfl (by kernel_rfl) (by kernel_rfl) (by kernel_rfl) (fun _ _ _ h => h) (Or.inl ⟨by kernel_rfl, ?_⟩) (by assumption) ?_
      rotate_left
      · (intro wS hwS; (try dsimp only at hwS); go_simp; try (first | (with_reducible rfl) | rw [if_pos (by omega)] | rw [if_neg (by omega)]))
      try simp only [Act.put, List.getElem_toArray, List.getElem_cons_succ, List.getElem_cons_zero, List.setIfInBounds_toArray, List.set_cons_zero, List.set_cons_succ]
      refine wpAnyH_take (i := 8) (v := ?_) rfl (by kernel_rfl) (by kernel_rfl) (by kernel_rfl) (fun _ _ _ h => h) (Or.inl ⟨by kernel_rfl, ?_⟩) (by assumption) ?_
      rotate_left
      · (intro wS hwS; (try dsimp only at hwS); go_simp; try (first | (with_reducible rfl) | rw [if_pos (by omega)] | rw [if_neg (by omega)]))
      try simp only [Act.put, List.getElem_toArray, List.getElem_cons_succ, List.getElem_cons_zero, List.setIfInBounds_toArray, List.set_cons_zero, List.set_cons_succ]
      refine wpAnyH_take (i := 9) (v := ?_) rfl (by kernel_rfl) (by kernel_rfl) (by kernel_rfl) (fun _ _ _ h => h) (Or.inl ⟨by kernel_rfl, ?_⟩) (by assumption) ?_
      rotate_left
      · (intro wS hwS; (try dsimp only at hwS); go_simp; try (first | (with_reducible rfl) | rw [if_pos (by omega)] | rw [if_neg (by omega)]))
      try simp only [Act.put, List.getElem_toArray, List.getElem_cons_succ, List.getElem_cons_zero, List.setIfInBounds_toArray, List.set_cons_zero, List.set_cons_succ]
      refine wpAnyH_take (i := 10) (v := ?_) rfl (by kernel_rfl) (by kernel_rfl) (by kernel_rfl) (fun _ _ _ h => h) (Or.inl ⟨by kernel_rfl, ?_⟩) (by assumption) ?_
      rotate_left
      · (intro wS hwS; (try dsimp only at hwS); go_simp; try (first | (with_reducible rfl) | rw [if_pos (by omega)] | rw [if_neg (by omega)]))
      try simp only [Act.put, List.getElem_toArray, List.getElem_cons_succ, List.getElem_cons_zero, List.setIfInBounds_toArray, List.set_cons_zero, List.set_cons_succ]
      refine region_one 5 (by kernel_rfl) rfl (fun K hK => ?_)
      go_simp
      refine (HP _ h.pw (hpr _ hB)).mono ?_
      rintro z w7 ⟨rfl, hm7, hw7⟩
      obtain ⟨h20, hv7, hB7⟩ := h.prog hm7
      clear hHeld
      refine hK.out _ _ (fun w' : World => At w' gb 72 [.pointer (some ⟨gd, 0, none⟩), .pointer (some ⟨gl, 0, none⟩), .pointer (some ⟨gr, 0, none⟩), .pointer (some ⟨gq, 0, none⟩)]) (h20) (fun _ h => h) (fun hHeld => ?_)
      clear hK K
      try simp only [Act.put, List.getElem_toArray, List.getElem_cons_succ, List.getElem_cons_zero, List.setIfInBounds_toArray, List.set_cons_zero, List.set_cons_succ]
      clear h20
      refine region_one 11 (by kernel_rfl) rfl (fun K hK => ?_)
      go_simp
      refine (HR _ hv7 (hpr _ (hB.trans hB7))).mono ?_
      rintro z w8 ⟨rfl, hm8, hv8⟩
      obtain ⟨h8, hB8⟩ := h.doc hm7 hw7 hm8 hv8
      clear hHeld
      refine hK.out _ _ (fun w' : World => At w' gb 72 [.pointer (some ⟨gd, 0, none⟩), .pointer (some ⟨gl, 0, none⟩), .pointer (some ⟨gr, 0, none⟩), .pointer (some ⟨gq, 0, none⟩)]) (h8.bd.bt) (fun _ h => h) (fun hHeld => ?_)
      clear hK K
      try simp only [Act.put, List.getElem_toArray, List.getElem_cons_succ, List.getElem_cons_zero, List.setIfInBounds_toArray, List.set_cons_zero, List.set_cons_succ]
      refine wpAnyH_take (i := 12) (v := ?_) rfl (by kernel_rfl) (by kernel_rfl) (by kernel_rfl) (fun _ _ _ h => h) (Or.inl ⟨by kernel_rfl, ?_⟩) (by assumption) ?_
      rotate_left
      · (intro wS hwS; (try dsimp only at hwS); go_simp; try (first | (with_reducible rfl) | rw [if_pos (by omega)] | rw [if_neg (by omega)]))
      try simp only [Act.put, List.getElem_toArray, List.getElem_cons_succ, List.getElem_cons_zero, List.setIfInBounds_toArray, List.set_cons_zero, List.set_cons_succ]
      refine wpAnyH_take (i := 13) (v := ?_) rfl (by kernel_rfl) (by kernel_rfl) (by kernel_rfl) (fun _ _ _ h => h) (Or.inl ⟨by kernel_rfl, ?_⟩) (by assumption) ?_
      rotate_left
      · (intro wS hwS; (try dsimp only at hwS); go_simp; try (first | (with_reducible rfl) | rw [if_pos (by omega)] | rw [if_neg (by omega)]))
      try simp only [Act.put, List.getElem_toArray, List.getElem_cons_succ, List.getElem_cons_zero, List.setIfInBounds_toArray, List.set_cons_zero, List.set_cons_succ]
      refine wpAnyH_done (by kernel_rfl) ?_ _
      have H8 := Lib.hid h8
      have HB8 := Lib.hid (hB.trans hB8)
      clear h8 hB8 hm8 hv8 hw7 hm7 hv7 hB7 hHeld k0 h hB
      go_wp2_with fail
      go_ret
      exact ⟨rfl, HB8.out, _, _, _, _, by omega, HOP.out.1, HOP.out.2.1, HOP.out.2.2, H8.out⟩
    ·
      go_upto_region 6 with fail
      have k0 : ∀ w' : World, At w' gb 72 [.pointer (some ⟨gd, 0, none⟩), .pointer (some ⟨gl, 0, none⟩), .pointer (some ⟨gr, 0, none⟩), .pointer (some ⟨gq, 0, none⟩)] → _ := fun w' h => (at4 h).1
      refine region_begin (fun w' : World => At w' gb 72 [.pointer (some ⟨gd, 0, none⟩), .pointer (some ⟨gl, 0, none⟩), .pointer (some ⟨gr, 0, none⟩), .pointer (some ⟨gq, 0, none⟩)]) (by kernel_rfl) (h.bd.bt.drew) (fun hHeld => ?_)
      replace h := h.drew
      replace hB := hB.drew
      clear x0 x1 x2 x3 xf y0 y1 y2 y3 yf h5
      generalize World.drew _ = w6 at *
      refine wpAnyH_take (i := 0) (v := ?_) rfl (by kernel_rfl) (by kernel_rfl) (by kernel_rfl) (fun _ _ _ h => h) (Or.inl ⟨by kernel_rfl, ?_⟩) (by assumption) ?_
      rotate_left
      · (intro wS hwS; (try dsimp only at hwS); go_simp; try (first | (with_reducible rfl) | rw [if_pos (by omega)] | rw [if_neg (by omega)]))
      try simp only [Act.put, List.getElem_toArray, List.getElem_cons_succ, List.getElem_cons_zero, List.setIfInBounds_toArray, List.set_cons_zero, List.set_cons_succ]
      refine wpAnyH_take (i := 1) (v := ?_) rfl (by kernel_rfl) (by kernel_rfl) (by kernel_rfl) (fun _ _ _ h => h) (Or.inl ⟨by kernel_rfl, ?_⟩) (by assumption) ?_
      rotate_left
      · (intro wS hwS; (try dsimp only at hwS); go_simp; try (first | (with_reducible rfl) | rw [if_pos (by omega)] | rw [if_neg (by omega)]))
      try simp only [Act.put, List.getElem_toArray, List.getElem_cons_succ, List.getElem_cons_zero, List.setIfInBounds_toArray, List.set_cons_zero, List.set_cons_succ]
      refine wpAnyH_take (i := 2) (v := ?_) rfl (by kernel_rfl) (by kernel_rfl) (by kernel_rfl) (fun _ _ _ h => h) (Or.inl ⟨by kernel_rfl, ?_⟩) (by assumption) ?_
      rotate_left
      · (intro wS hwS; (try dsimp only at hwS); go_simp; try (first | (with_reducible rfl) | rw [if_pos (by omega)] | rw [if_neg (by omega)]))
      try simp only [Act.put, List.getElem_toArray, List.getElem_cons_succ, List.getElem_cons_zero, List.setIfInBounds_toArray, List.set_cons_zero, List.set_cons_succ]
      refine wpAnyH_take (i := 3) (v := ?_) rfl (by kernel_rfl) (by kernel_rfl) (by kernel_rfl) (fun _ _ _ h => h) (Or.inl ⟨by kernel_rfl, ?_⟩) (by assumption) ?_
      rotate_left
      · (intro wS hwS; (try dsimp only at hwS); go_simp; try (first | (with_reducible rfl) | rw [if_pos (by omega)] | rw [if_neg (by omega)]))
      try simp only [Act.put, List.getElem_toArray, List.getElem_cons_succ, List.getElem_cons_zero, List.setIfInBounds_toArray, List.set_cons_zero, List.set_cons_succ]
      refine wpAnyH_take (i := 4) (v := ?_) rfl (by kernel_rfl) (by kernel_rfl) (by kernel_rfl) (fun _ _ _ h => h) (Or.inl ⟨by kernel_rfl, ?_⟩) (by assumption) ?_
      rotate_left
      · (intro wS hwS; (try dsimp only at hwS); go_simp; try (first | (with_reducible rfl) | rw [if_pos (by omega)] | rw [if_neg (by omega)]))
      try simp only [Act.put, List.getElem_toArray, List.getElem_cons_succ, List.getElem_cons_zero, List.setIfInBounds_toArray, List.set_cons_zero, List.set_cons_succ]
      refine wpAnyH_take (i := 6) (v := ?_) rfl (by kernel_rfl) (by kernel_rfl) (by kernel_rfl) (fun _ _ _ h => h) (Or.inl ⟨by kernel_rfl, ?_⟩) (by assumption) ?_
      rotate_left
      · (intro wS hwS; (try dsimp only at hwS); go_simp; try (first | (with_reducible rfl) | rw [if_pos (by omega)] | rw [if_neg (by omega)]))
      try simp only [Act.put, List.getElem_toArray, List.getElem_cons_succ, List.getElem_cons_zero, List.setIfInBounds_toArray, List.set_cons_zero, List.set_cons_succ]
      refine wpAnyH_take (i := 7) (v := ?_) rfl (by kernel_rfl) (by kernel_rfl) (by kernel_rfl) (fun _ _ _ h => h) (Or.inl ⟨by kernel_rfl, ?_⟩) (by assumption) ?_
      rotate_left
      · (intro wS hwS; (try dsimp only at hwS); go_simp; try (first | (with_reducible rfl) | rw [if_pos (by omega)] | rw [if_neg (by omega)]))
      try simp only [Act.put, List.getElem_toArray, List.getElem_cons_succ, List.getElem_cons_zero, List.setIfInBounds_toArray, List.set_cons_zero, List.set_cons_succ]
      refine wpAnyH_take (i := 8) (v := ?_) rfl (by kernel_rfl) (by kernel_rfl) (by kernel_rfl) (fun _ _ _ h => h) (Or.inl ⟨by kernel_rfl, ?_⟩) (by assumption) ?_
      rotate_left
      · (intro wS hwS; (try dsimp only at hwS); go_simp; try (first | (with_reducible rfl) | rw [if_pos (by omega)] | rw [if_neg (by omega)]))
      try simp only [Act.put, List.getElem_toArray, List.getElem_cons_succ, List.getElem_cons_zero, List.setIfInBounds_toArray, List.set_cons_zero, List.set_cons_succ]
      refine wpAnyH_take (i := 9) (v := ?_) rfl (by kernel_rfl) (by kernel_rfl) (by kernel_rfl) (fun _ _ _ h => h) (Or.inl ⟨by kernel_rfl, ?_⟩) (by assumption) ?_
      rotate_left
      · (intro wS hwS; (try dsimp only at hwS); go_simp; try (first | (with_reducible rfl) | rw [if_pos (by omega)] | rw [if_neg (by omega)]))
      try simp only [Act.put, List.getElem_toArray, List.getElem_cons_succ, List.getElem_cons_zero, List.setIfInBounds_toArray, List.set_cons_zero, List.set_cons_succ]
      refine wpAnyH_take (i := 10) (v := ?_) rfl (by kernel_rfl) (by kernel_rfl) (by kernel_rfl) (fun _ _ _ h => h) (Or.inl ⟨by kernel_rfl, ?_⟩) (by assumption) ?_
      rotate_left
      · (intro wS hwS; (try dsimp only at hwS); go_simp; try (first | (with_reducible rfl) | rw [if_pos (by omega)] | rw [if_neg (by omega)]))
      try simp only [Act.put, List.getElem_toArray, List.getElem_cons_succ, List.getElem_cons_zero, List.setIfInBounds_toArray, List.set_cons_zero, List.set_cons_succ]
      refine region_one 5 (by kernel_rfl) rfl (fun K hK => ?_)
      go_simp
      refine (HP _ h.pw (hpr _ hB)).mono ?_
      rintro z w7 ⟨rfl, hm7, hw7⟩
      obtain ⟨h20, hv7, hB7⟩ := h.prog hm7
      clear hHeld
      refine hK.out _ _ (fun w' : World => At w' gb 72 [.pointer (some ⟨gd, 0, none⟩), .pointer (some ⟨gl, 0, none⟩), .pointer (some ⟨gr, 0, none⟩), .pointer (some ⟨gq, 0, none⟩)]) (h20) (fun _ h => h) (fun hHeld => ?_)
      clear hK K
      try simp only [Act.put, List.getElem_toArray, List.getElem_cons_succ, List.getElem_cons_zero, List.setIfInBounds_toArray, List.set_cons_zero, List.set_cons_succ]
      clear h20
      refine region_one 11 (by kernel_rfl) rfl (fun K hK => ?_)
      go_simp
      refine (HR _ hv7 (hpr _ (hB.trans hB7))).mono ?_
      rintro z w8 ⟨rfl, hm8, hv8⟩
      obtain ⟨h8, hB8⟩ := h.doc hm7 hw7 hm8 hv8
      clear hHeld
      refine hK.out _ _ (fun w' : World => At w' gb 72 [.pointer (some ⟨gd, 0, none⟩), .pointer (some ⟨gl, 0, none⟩), .pointer (some ⟨gr, 0, none⟩), .pointer (some ⟨gq, 0, none⟩)]) (h8.bd.bt) (fun _ h => h) (fun hHeld => ?_)
      clear hK K
      try simp only [Act.put, List.getElem_toArray, List.getElem_cons_succ, List.getElem_cons_zero, List.setIfInBounds_toArray, List.set_cons_zero, List.set_cons_succ]
      refine wpAnyH_take (i := 12) (v := ?_) rfl (by kernel_rfl) (by kernel_rfl) (by kernel_rfl) (fun _ _ _ h => h) (Or.inl ⟨by kernel_rfl, ?_⟩) (by assumption) ?_
      rotate_left
      · (intro wS hwS; (try dsimp only at hwS); go_simp; try (first | (with_reducible rfl) | rw [if_pos (by omega)] | rw [if_neg (by omega)]))
      try simp only [Act.put, List.getElem_toArray, List.getElem_cons_succ, List.getElem_cons_zero, List.setIfInBounds_toArray, List.set_cons_zero, List.set_cons_succ]
      refine wpAnyH_take (i := 13) (v := ?_) rfl (by kernel_rfl) (by kernel_rfl) (by kernel_rfl) (fun _ _ _ h => h) (Or.inl ⟨by kernel_rfl, ?_⟩) (by assumption) ?_
      rotate_left
      · (intro wS hwS; (try dsimp only at hwS); go_simp; try (first | (with_reducible rfl) | rw [if_pos (by omega)] | rw [if_neg (by omega)]))
      try simp only [Act.put, List.getElem_toArray, List.getElem_cons_succ, List.getElem_cons_zero, List.setIfInBounds_toArray, List.set_cons_zero, List.set_cons_succ]
      refine wpAnyH_done (by kernel_rfl) ?_ _
      have H8 := Lib.hid h8
      have HB8 := Lib.hid (hB.trans hB8)
      clear h8 hB8 hm8 hv8 hw7 hm7 hv7 hB7 hHeld k0 h hB
      go_wp2_with fail
      go_ret
      exact ⟨rfl, HB8.out, _, _, _, _, by omega, HOP.out.1, HOP.out.2.1, HOP.out.2.2, H8.out⟩
    ·
      go_upto_region 6 with fail
      have k0 : ∀ w' : World, At w' gb 72 [.pointer (some ⟨gd, 0, none⟩), .pointer (some ⟨gl, 0, none⟩), .pointer (some ⟨gr, 0, none⟩), .pointer (some ⟨gq, 0, none⟩)] → _ := fun w' h => (at4 h).1
      refine region_begin (fun w' : World => At w' gb 72 [.pointer (some ⟨gd, 0, none⟩), .pointer (some ⟨gl, 0, none⟩), .pointer (some ⟨gr, 0, none⟩), .pointer (some ⟨gq, 0, none⟩)]) (by kernel_rfl) (h.bd.bt.drew) (fun hHeld => ?_)
      replace h := h.drew
      replace hB := hB.drew
      clear x0 x1 x2 x3 xf y0 y1 y2 y3 yf h5
      generalize World.drew _ = w6 at *
      refine wpAnyH_take (i := 0) (v := ?_) rfl (by kernel_rfl) (by kernel_rfl) (by kernel_rfl) (fun _ _ _ h => h) (Or.inl ⟨by kernel_rfl, ?_⟩) (by assumption) ?_
      rotate_left
      · (intro wS hwS; (try dsimp only at hwS); go_simp; try (first | (with_reducible rfl) | rw [if_pos (by omega)] | rw [if_neg (by omega)]))
      try simp only [Act.put, List.getElem_toArray, List.getElem_cons_succ, List.getElem_cons_zero, List.setIfInBounds_toArray, List.set_cons_zero, List.set_cons_succ]
      refine wpAnyH_take (i := 1) (v := ?_) rfl (by kernel_rfl) (by kernel_rfl) (by kernel_rfl) (fun _ _ _ h => h) (Or.inl ⟨by kernel_rfl, ?_⟩) (by assumption) ?_
      rotate_left
      · (intro wS hwS; (try dsimp only at hwS); go_simp; try (first | (with_reducible rfl) | rw [if_pos (by omega)] | rw [if_neg (by omega)]))
      try simp only [Act.put, List.getElem_toArray, List.getElem_cons_succ, List.getElem_cons_zero, List.setIfInBounds_toArray, List.set_cons_zero, List.set_cons_succ]
      refine wpAnyH_take (i := 2) (v := ?_) rfl (by kernel_rfl) (by kernel_rfl) (by kernel_rfl) (fun _ _ _ h => h) (Or.inl ⟨by kernel_rfl, ?_⟩) (by assumption) ?_
      rotate_left
      · (intro wS hwS; (try dsimp only at hwS); go_simp; try (first | (with_reducible rfl) | rw [if_pos (by omega)] | rw [if_neg (by omega)]))
      try simp only [Act.put, List.getElem_toArray, List.getElem_cons_succ, List.getElem_cons_zero, List.setIfInBounds_toArray, List.set_cons_zero, List.set_cons_succ]
      refine wpAnyH_take (i := 3) (v := ?_) rfl (by kernel_rfl) (by kernel_rfl) (by kernel_rfl) (fun _ _ _ h => h) (Or.inl ⟨by kernel_rfl, ?_⟩) (by assumption) ?_
      rotate_left
      · (intro wS hwS; (try dsimp only at hwS); go_simp; try (first | (with_reducible rfl) | rw [if_pos (by omega)] | rw [if_neg (by omega)]))
      try simp only [Act.put, List.getElem_toArray, List.getElem_cons_succ, List.getElem_cons_zero, List.setIfInBounds_toArray, List.set_cons_zero, List.set_cons_succ]
      refine wpAnyH_take (i := 4) (v := ?_) rfl (by kernel_rfl) (by kernel_rfl) (by kernel_rfl) (fun _ _ _ h => h) (Or.inl ⟨by kernel_rfl, ?_⟩) (by assumption) ?_
      rotate_left
      · (intro wS hwS; (try dsimp only at hwS); go_simp; try (first | (with_reducible rfl) | rw [if_pos (by omega)] | rw [if_neg (by omega)]))
      try simp only [Act.put, List.getElem_toArray, List.getElem_cons_succ, List.getElem_cons_zero, List.setIfInBounds_toArray, List.set_cons_zero, List.set_cons_succ]
      refine wpAnyH_take (i := 6) (v := ?_) rfl (by kernel_rfl) (by kernel_rfl) (by kernel_rfl) (fun _ _ _ h => h) (Or.inl ⟨by kernel_rfl, ?_⟩) (by assumption) ?_
      rotate_left
      · (intro wS hwS; (try dsimp only at hwS); go_simp; try (first | (with_reducible rfl) | rw [if_pos (by omega)] | rw [if_neg (by omega)]))
      try simp only [Act.put, List.getElem_toArray, List.getElem_cons_succ, List.getElem_cons_zero, List.setIfInBounds_toArray, List.set_cons_zero, List.set_cons_succ]
      refine wpAnyH_take (i := 7) (v := ?_) rfl (by kernel_rfl) (by kernel_rfl) (by kernel_rfl) (fun _ _ _ h => h) (Or.inl ⟨by kernel_rfl, ?_⟩) (by assumption) ?_
      rotate_left
      · (intro wS hwS; (try dsimp only at hwS); go_simp; try (first | (with_reducible rfl) | rw [if_pos (by omega)] | rw [if_neg (by omega)]))
      try simp only [Act.put, List.getElem_toArray, List.getElem_cons_succ, List.getElem_cons_zero, List.setIfInBounds_toArray, List.set_cons_zero, List.set_cons_succ]
      refine wpAnyH_take (i := 8) (v := ?_) rfl (by kernel_rfl) (by kernel_rfl) (by kernel_rfl) (fun _ _ _ h => h) (Or.inl ⟨by kernel_rfl, ?_⟩) (by assumption) ?_
      rotate_left
      · (intro wS hwS; (try dsimp only at hwS); go_simp; try (first | (with_reducible rfl) | rw [if_pos (by omega)] | rw [if_neg (by omega)]))
      try simp only [Act.put, List.getElem_toArray, List.getElem_cons_succ, List.getElem_cons_zero, List.setIfInBounds_toArray, List.set_cons_zero, List.set_cons_succ]
      refine wpAnyH_take (i := 9) (v := ?_) rfl (by kernel_rfl) (by kernel_rfl) (by kernel_rfl) (fun _ _ _ h => h) (Or.inl ⟨by kernel_rfl, ?_⟩) (by assumption) ?_
      rotate_left
      · (intro wS hwS; (try dsimp only at hwS); go_simp; try (first | (with_reducible rfl) | rw [if_pos (by omega)] | rw [if_neg (by omega)]))
      try simp only [Act.put, List.getElem_toArray, List.getElem_cons_succ, List.getElem_cons_zero, List.setIfInBounds_toArray, List.set_cons_zero, List.set_cons_succ]
      refine wpAnyH_take (i := 10) (v := ?_) rfl (by kernel_rfl) (by kernel_rfl) (by kernel_rfl) (fun _ _ _ h => h) (Or.inl ⟨by kernel_rfl, ?_⟩) (by assumption) ?_
      rotate_left
      · (intro wS hwS; (try dsimp only at hwS); go_simp; try (first | (with_reducible rfl) | rw [if_pos (by omega)] | rw [if_neg (by omega)]))
      try simp only [Act.put, List.getElem_toArray, List.getElem_cons_succ, List.getElem_cons_zero, List.setIfInBounds_toArray, List.set_cons_zero, List.set_cons_succ]
      refine region_one 5 (by kernel_rfl) rfl (fun K hK => ?_)
      go_simp
      refine (HP _ h.pw (hpr _ hB)).mono ?_
      rintro z w7 ⟨rfl, hm7, hw7⟩
      obtain ⟨h20, hv7, hB7⟩ := h.prog hm7
      clear hHeld
      refine hK.out _ _ (fun w' : World => At w' gb 72 [.pointer (some ⟨gd, 0, none⟩), .pointer (some ⟨gl, 0, none⟩), .pointer (some ⟨gr, 0, none⟩), .pointer (some ⟨gq, 0, none⟩)]) (h20) (fun _ h => h) (fun hHeld => ?_)
      clear hK K
      try simp only [Act.put, List.getElem_toArray, List.getElem_cons_succ, List.getElem_cons_zero, List.setIfInBounds_toArray, List.set_cons_zero, List.set_cons_succ]
      clear h20
      refine region_one 11 (by kernel_rfl) rfl (fun K hK => ?_)
      go_simp
      refine (HR _ hv7 (hpr _ (hB.trans hB7))).mono ?_
      rintro z w8 ⟨rfl, hm8, hv8⟩
      obtain ⟨h8, hB8⟩ := h.doc hm7 hw7 hm8 hv8
      clear hHeld
      refine hK.out _ _ (fun w' : World => At w' gb 72 [.pointer (some ⟨gd, 0, none⟩), .pointer (some ⟨gl, 0, none⟩), .pointer (some ⟨gr, 0, none⟩), .pointer (some ⟨gq, 0, none⟩)]) (h8.bd.bt) (fun _ h => h) (fun hHeld => ?_)
      clear hK K
      try simp only [Act.put, List.getElem_toArray, List.getElem_cons_succ, List.getElem_cons_zero, List.setIfInBounds_toArray, List.set_cons_zero, List.set_cons_succ]
      refine wpAnyH_take (i := 12) (v := ?_) rfl (by kernel_rfl) (by kernel_rfl) (by kernel_rfl) (fun _ _ _ h => h) (Or.inl ⟨by kernel_rfl, ?_⟩) (by assumption) ?_
      rotate_left
      · (intro wS hwS; (try dsimp only at hwS); go_simp; try (first | (with_reducible rfl) | rw [if_pos (by omega)] | rw [if_neg (by omega)]))
      try simp only [Act.put, List.getElem_toArray, List.getElem_cons_succ, List.getElem_cons_zero, List.setIfInBounds_toArray, List.set_cons_zero, List.set_cons_succ]
      refine wpAnyH_take (i := 13) (v := ?_) rfl (by kernel_rfl) (by kernel_rfl) (by kernel_rfl) (fun _ _ _ h => h) (Or.inl ⟨by kernel_rfl, ?_⟩) (by assumption) ?_
      rotate_left
      · (intro wS hwS; (try dsimp only at hwS); go_simp; try (first | (with_reducible rfl) | rw [if_pos (by omega)] | rw [if_neg (by omega)]))
      try simp only [Act.put, List.getElem_toArray, List.getElem_cons_succ, List.getElem_cons_zero, List.setIfInBounds_toArray, List.set_cons_zero, List.set_cons_succ]
      refine wpAnyH_done (by kernel_rfl) ?_ _
      have H8 := Lib.hid h8
      have HB8 := Lib.hid (hB.trans hB8)
      clear h8 hB8 hm8 hv8 hw7 hm7 hv7 hB7 hHeld k0 h hB
      go_wp2_with fail
      go_ret
      exact ⟨rfl, HB8.out, _, _, _, _, by omega, HOP.out.1, HOP.out.2.1, HOP.out.2.2, H8.out⟩
  replace e0 : ¬ ki = 0 ∧ ¬ ki = 1 ∧ ¬ ki = 2 := by omega
  have b0 : (ki == 0) = false := by simpa using e0.1
  have b1 : (ki == 1) = false := by simpa using e0.2.1
  have b2 : (ki == 2) = false := by simpa using e0.2.2
  clear e0
  by_cases e3 : ki = 3
  · subst e3
    have HP := fun (v : World) (h : IsW v gl gd bd N wF s) => wclear_any s wF_hi v h ho (by omega) (by omega)
    have HR := fun (v : World) (h : IsV v gq gr wF s) => rclear_any s v h ho (by omega) (by omega)
    have hok := wc_ok ho hs
    obtain ⟨o, ho2⟩ : ∃ o, wcP s wF = o := ⟨_, rfl⟩
    rw [ho2] at HP HR hok
    have HOP := Lib.hid hok
    clear hok ho2
    go_upto_region 8 with fail
    have k0 : ∀ w' : World, At w' gb 72 [.pointer (some ⟨gd, 0, none⟩), .pointer (some ⟨gl, 0, none⟩), .pointer (some ⟨gr, 0, none⟩), .pointer (some ⟨gq, 0, none⟩)] → _ := fun w' h => (at4 h).1
    refine region_begin (fun w' : World => At w' gb 72 [.pointer (some ⟨gd, 0, none⟩), .pointer (some ⟨gl, 0, none⟩), .pointer (some ⟨gr, 0, none⟩), .pointer (some ⟨gq, 0, none⟩)]) (by kernel_rfl) (h.bd.bt.drew) (fun hHeld => ?_)
    replace h := h.drew
    replace hB := hB.drew
    clear x0 x1 x2 x3 xf y0 y1 y2 y3 yf h5
    generalize World.drew _ = w6 at *
    refine wpAnyH_take (i := 0) (v := ?_) rfl (by kernel_rfl) (by kernel_rfl) (by kernel_rfl) (fun _ _ _ h => h) (Or.inl ⟨by kernel_rfl, ?_⟩) (by assumption) ?_
    rotate_left
    · (intro wS hwS; (try dsimp only at hwS); go_simp; try (first | (with_reducible rfl) | rw [if_pos (by omega)] | rw [if_neg (by omega)]))
    try simp only [Act.put, List.getElem_toArray, List.getElem_cons_succ, List.getElem_cons_zero, List.setIfInBounds_toArray, List.set_cons_zero, List.set_cons_succ]
    refine wpAnyH_take (i := 1) (v := ?_) rfl (by kernel_rfl) (by kernel_rfl) (by kernel_rfl) (fun _ _ _ h => h) (Or.inl ⟨by kernel_rfl, ?_⟩) (by assumption) ?_
    rotate_left
    · (intro wS hwS; (try dsimp only at hwS); go_simp; try (first | (with_reducible rfl) | rw [if_pos (by omega)] | rw [if_neg (by omega)]))
    try simp only [Act.put, List.getElem_toArray, List.getElem_cons_succ, List.getElem_cons_zero, List.setIfInBounds_toArray, List.set_cons_zero, List.set_cons_succ]
    refine wpAnyH_take (i := 2) (v := ?_) rfl (by kernel_rfl) (by kernel_rfl) (by kernel_rfl) (fun _ _ _ h => h) (Or.inl ⟨by kernel_rfl, ?_⟩) (by assumption) ?_
    rotate_left
    · (intro wS hwS; (try dsimp only at hwS); go_simp; try (first | (with_reducible rfl) | rw [if_pos (by omega)] | rw [if_neg (by omega)]))
    try simp only [Act.put, List.getElem_toArray, List.getElem_cons_succ, List.getElem_cons_zero, List.setIfInBounds_toArray, List.set_cons_zero, List.set_cons_succ]
    refine wpAnyH_take (i := 3) (v := ?_) rfl (by kernel_rfl) (by kernel_rfl) (by kernel_rfl) (fun _ _ _ h => h) (Or.inl ⟨by kernel_rfl, ?_⟩) (by assumption) ?_
    rotate_left
    · (intro wS hwS; (try dsimp only at hwS); go_simp; try (first | (with_reducible rfl) | rw [if_pos (by omega)] | rw [if_neg (by omega)]))
    try simp only [Act.put, List.getElem_toArray, List.getElem_cons_succ, List.getElem_cons_zero, List.setIfInBounds_toArray, List.set_cons_zero, List.set_cons_succ]
    refine wpAnyH_take (i := 5) (v := ?_) rfl (by kernel_rfl) (by kernel_rfl) (by kernel_rfl) (fun _ _ _ h => h) (Or.inl ⟨by kernel_rfl, ?_⟩) (by assumption) ?_
    rotate_left
    · (intro wS hwS; (try dsimp only at hwS); go_simp; try (first | (with_reducible rfl) | rw [if_pos (by omega)] | rw [if_neg (by omega)]))
    try simp only [Act.put, List.getElem_toArray, List.getElem_cons_succ, List.getElem_cons_zero, List.setIfInBounds_toArray, List.set_cons_zero, List.set_cons_succ]
    refine wpAnyH_take (i := 6) (v := ?_) rfl (by kernel_rfl) (by kernel_rfl) (by kernel_rfl) (fun _ _ _ h => h) (Or.inl ⟨by kernel_rfl, ?_⟩) (by assumption) ?_
    rotate_left
    · (intro wS hwS; (try dsimp only at hwS); go_simp; try (first | (with_reducible rfl) | rw [if_pos (by omega)] | rw [if_neg (by omega)]))
    try simp only [Act.put, List.getElem_toArray, List.getElem_cons_succ, List.getElem_cons_zero, List.setIfInBounds_toArray, List.set_cons_zero, List.set_cons_succ]
    refine wpAnyH_take (i := 7) (v := ?_) rfl (by kernel_rfl) (by kernel_rfl) (by kernel_rfl) (fun _ _ _ h => h) (Or.inl ⟨by kernel_rfl, ?_⟩) (by assumption) ?_
    rotate_left
    · (intro wS hwS; (try dsimp only at hwS); go_simp; try (first | (with_reducible rfl) | rw [if_pos (by omega)] | rw [if_neg (by omega)]))
    try simp only [Act.put, List.getElem_toArray, List.getElem_cons_succ, List.getElem_cons_zero, List.setIfInBounds_toArray, List.set_cons_zero, List.set_cons_succ]
    refine wpAnyH_take (i := 8) (v := ?_) rfl (by kernel_rfl) (by kernel_rfl) (by kernel_rfl) (fun _ _ _ h => h) (Or.inl ⟨by kernel_rfl, ?_⟩) (by assumption) ?_
    rotate_left
    · (intro wS hwS; (try dsimp only at hwS); go_simp; try (first | (with_reducible rfl) | rw [if_pos (by omega)] | rw [if_neg (by omega)]))
    try simp only [Act.put, List.getElem_toArray, List.getElem_cons_succ, List.getElem_cons_zero, List.setIfInBounds_toArray, List.set_cons_zero, List.set_cons_succ]
    refine region_one 4 (by kernel_rfl) rfl (fun K hK => ?_)
    go_simp
    refine (HP _ h.pw ).mono ?_
    rintro z w7 ⟨rfl, hm7, hw7⟩
    obtain ⟨h20, hv7, hB7⟩ := h.prog hm7
    clear hHeld
    refine hK.out _ _ (fun w' : World => At w' gb 72 [.pointer (some ⟨gd, 0, none⟩), .pointer (some ⟨gl, 0, none⟩), .pointer (some ⟨gr, 0, none⟩), .pointer (some ⟨gq, 0, none⟩)]) (h20) (fun _ h => h) (fun hHeld => ?_)
    clear hK K
    try simp only [Act.put, List.getElem_toArray, List.getElem_cons_succ, List.getElem_cons_zero, List.setIfInBounds_toArray, List.set_cons_zero, List.set_cons_succ]
    clear h20
    refine region_one 9 (by kernel_rfl) rfl (fun K hK => ?_)
    go_simp
    refine (HR _ hv7 ).mono ?_
    rintro z w8 ⟨rfl, hm8, hv8⟩
    obtain ⟨h8, hB8⟩ := h.doc hm7 hw7 hm8 hv8
    clear hHeld
    refine hK.out _ _ (fun w' : World => At w' gb 72 [.pointer (some ⟨gd, 0, none⟩), .pointer (some ⟨gl, 0, none⟩), .pointer (some ⟨gr, 0, none⟩), .pointer (some ⟨gq, 0, none⟩)]) (h8.bd.bt) (fun _ h => h) (fun hHeld => ?_)
    clear hK K
    try simp only [Act.put, List.getElem_toArray, List.getElem_cons_succ, List.getElem_cons_zero, List.setIfInBounds_toArray, List.set_cons_zero, List.set_cons_succ]
    refine wpAnyH_take (i := 10) (v := ?_) rfl (by kernel_rfl) (by kernel_rfl) (by kernel_rfl) (fun _ _ _ h => h) (Or.inl ⟨by kernel_rfl, ?_⟩) (by assumption) ?_
    rotate_left
    · (intro wS hwS; (try dsimp only at hwS); go_simp; try (first | (with_reducible rfl) | rw [if_pos (by omega)] | rw [if_neg (by omega)]))
    try simp only [Act.put, List.getElem_toArray, List.getElem_cons_succ, List.getElem_cons_zero, List.setIfInBounds_toArray, List.set_cons_zero, List.set_cons_succ]
    refine wpAnyH_take (i := 11) (v := ?_) rfl (by kernel_rfl) (by kernel_rfl) (by kernel_rfl) (fun _ _ _ h => h) (Or.inl ⟨by kernel_rfl, ?_⟩) (by assumption) ?_
    rotate_left
    · (intro wS hwS; (try dsimp only at hwS); go_simp; try (first | (with_reducible rfl) | rw [if_pos (by omega)] | rw [if_neg (by omega)]))
    try simp only [Act.put, List.getElem_toArray, List.getElem_cons_succ, List.getElem_cons_zero, List.setIfInBounds_toArray, List.set_cons_zero, List.set_cons_succ]
    refine wpAnyH_done (by kernel_rfl) ?_ _
    have H8 := Lib.hid h8
    have HB8 := Lib.hid (hB.trans hB8)
    clear h8 hB8 hm8 hv8 hw7 hm7 hv7 hB7 hHeld k0 h hB
    go_wp2_with fail
    go_ret
    exact ⟨rfl, HB8.out, _, _, _, _, by omega, HOP.out.1, HOP.out.2.1, HOP.out.2.2, H8.out⟩
  replace e3 : (ki == 3) = false := by simpa using e3
  by_cases e4 : ki = 4
  · subst e4
    have hbt := h.bd.bt
    go_upto_region 10 with fail
    refine region_any (by kernel_rfl) ?_
    change wpAny _ _ _ _ _ _ _ (World.drew _)
    replace hbt := At.drew hbt
    replace h5 := At.drew h5
    replace h := h.drew
    replace hB := hB.drew
    clear x0 x1 x2 x3 xf y0 y1 y2 y3 yf
    generalize World.drew _ = w3 at *
    obtain ⟨⟨x0, x1, x2, x3⟩, xf⟩ := at4 hbt
    obtain ⟨⟨y0, y1, y2, y3⟩, yf⟩ := at4 h5
    have l4 := hbt.lt
    have l5 := h5.lt
    refine stage 6 ?_
    refine stage_read (i := 0) (v := ?_) rfl (by kernel_rfl) (by kernel_rfl) (by kernel_rfl) (by kernel_rfl) (by kernel_rfl) (by kernel_rfl) (fun _ _ _ h => h) (Or.inl ⟨by kernel_rfl, ?_⟩) ?_
    rotate_left
    · (intro wS hwS; obtain ⟨hcS, hfS, hhS⟩ := bcell hwS; go_simp; try (first | (with_reducible rfl) | rw [if_pos (by omega)] | rw [if_neg (by omega)]))
    try simp only [Act.put, List.getElem_toArray, List.getElem_cons_succ, List.getElem_cons_zero, List.setIfInBounds_toArray, List.set_cons_zero, List.set_cons_succ]
    refine stage_read (i := 1) (v := ?_) rfl (by kernel_rfl) (by kernel_rfl) (by kernel_rfl) (by kernel_rfl) (by kernel_rfl) (by kernel_rfl) (fun _ _ _ h => h) (Or.inl ⟨by kernel_rfl, ?_⟩) ?_
    rotate_left
    · (intro wS hwS; obtain ⟨hcS, hfS, hhS⟩ := bcell hwS; go_simp; try (first | (with_reducible rfl) | rw [if_pos (by omega)] | rw [if_neg (by omega)]))
    try simp only [Act.put, List.getElem_toArray, List.getElem_cons_succ, List.getElem_cons_zero, List.setIfInBounds_toArray, List.set_cons_zero, List.set_cons_succ]
    refine stage_read (i := 2) (v := ?_) rfl (by kernel_rfl) (by kernel_rfl) (by kernel_rfl) (by kernel_rfl) (by kernel_rfl) (by kernel_rfl) (fun _ _ _ h => h) (Or.inl ⟨by kernel_rfl, ?_⟩) ?_
    rotate_left
    · (intro wS hwS; obtain ⟨hcS, hfS, hhS⟩ := bcell hwS; go_simp; try (first | (with_reducible rfl) | rw [if_pos (by omega)] | rw [if_neg (by omega)]))
    try simp only [Act.put, List.getElem_toArray, List.getElem_cons_succ, List.getElem_cons_zero, List.setIfInBounds_toArray, List.set_cons_zero, List.set_cons_succ]
    refine stage_read (i := 3) (v := ?_) rfl (by kernel_rfl) (by kernel_rfl) (by kernel_rfl) (by kernel_rfl) (by kernel_rfl) (by kernel_rfl) (fun _ _ _ h => h) (Or.inl ⟨by kernel_rfl, ?_⟩) ?_
    rotate_left
    · (intro wS hwS; obtain ⟨hcS, hfS, hhS⟩ := bcell hwS; go_simp; try (first | (with_reducible rfl) | rw [if_pos (by omega)] | rw [if_neg (by omega)]))
    try simp only [Act.put, List.getElem_toArray, List.getElem_cons_succ, List.getElem_cons_zero, List.setIfInBounds_toArray, List.set_cons_zero, List.set_cons_succ]
    refine stage_read (i := 4) (v := ?_) rfl (by kernel_rfl) (by kernel_rfl) (by kernel_rfl) (by kernel_rfl) (by kernel_rfl) (by kernel_rfl) (fun _ _ _ h => h) (Or.inl ⟨by kernel_rfl, ?_⟩) ?_
    rotate_left
    · (intro wS hwS; obtain ⟨hcS, hfS, hhS⟩ := bcell hwS; go_simp; try (first | (with_reducible rfl) | rw [if_pos (by omega)] | rw [if_neg (by omega)]))
    try simp only [Act.put, List.getElem_toArray, List.getElem_cons_succ, List.getElem_cons_zero, List.setIfInBounds_toArray, List.set_cons_zero, List.set_cons_succ]
    refine stage_read (i := 5) (v := ?_) rfl (by kernel_rfl) (by kernel_rfl) (by kernel_rfl) (by kernel_rfl) (by kernel_rfl) (by kernel_rfl) (fun _ _ _ h => h) (Or.inl ⟨by kernel_rfl, ?_⟩) ?_
    rotate_left
    · (intro wS hwS; obtain ⟨hcS, hfS, hhS⟩ := bcell hwS; go_simp; try (first | (with_reducible rfl) | rw [if_pos (by omega)] | rw [if_neg (by omega)]))
    try simp only [Act.put, List.getElem_toArray, List.getElem_cons_succ, List.getElem_cons_zero, List.setIfInBounds_toArray, List.set_cons_zero, List.set_cons_succ]
    refine stage_end (by kernel_rfl) rfl (fun K hK => ?_)
    go_simp
    refine (pd_arm n hf1.2 _ h.bd.dk).mono ?_
    rintro z w4 ⟨rfl, hm4, hd4⟩
    refine hK.out _ _ ?_
    clear hK K
    try simp only [Act.put, List.getElem_toArray, List.getElem_cons_succ, List.getElem_cons_zero, List.setIfInBounds_toArray, List.set_cons_zero, List.set_cons_succ]
    first | refine wpAnyT_done (by kernel_rfl) ?_ _ | refine wpAny_done (by kernel_rfl) ?_ _
    clear x0 x1 x2 x3 xf y0 y1 y2 y3 yf l4 l5
    replace hbt := hm4.at hbt (h.bd.dk.freeAt hbt (by decide))
    replace h5 := hm4.at h5 (h.bd.dk.freeAt h5 (by decide))
    have hrf := h.bd.rf.keep h.bd.dk hm4
    have hm5 : Mod (fun i _ => i = gr) w4 w4 := Mod.refl _ _
    have hB4 : Below B w w4 := hB.trans (mod2w hm4 h.bd.lo.2.1 h.bd.lo.2.2.1 h.bd.hw)
    have H := Lib.hid h
    have HD4 := Lib.hid hd4
    have HM4 := Lib.hid hm4
    have HB3 := Lib.hid hB
    clear h hd4 hm4 hB
    obtain ⟨⟨x0, x1, x2, x3⟩, xf⟩ := at4 hbt
    obtain ⟨⟨y0, y1, y2, y3⟩, yf⟩ := at4 h5
    replace hm5 := hm5.drew
    replace hB4 := hB4.drew
    go_upto_region 11 with fail
    refine region_any (by kernel_rfl) ?_
    change wpAny _ _ _ _ _ _ _ (World.drew _)
    replace hbt := At.drew hbt
    replace h5 := At.drew h5
    replace hrf := hrf.drew
    skip
    clear x0 x1 x2 x3 xf y0 y1 y2 y3 yf
    generalize World.drew _ = w5 at *
    obtain ⟨⟨x0, x1, x2, x3⟩, xf⟩ := at4 hbt
    obtain ⟨⟨y0, y1, y2, y3⟩, yf⟩ := at4 h5
    have l4 := hbt.lt
    have l5 := h5.lt
    refine stage 6 ?_
    refine stage_read (i := 0) (v := ?_) rfl (by kernel_rfl) (by kernel_rfl) (by kernel_rfl) (by kernel_rfl) (by kernel_rfl) (by kernel_rfl) (fun _ _ _ h => h) (Or.inl ⟨by kernel_rfl, ?_⟩) ?_
    rotate_left
    · (intro wS hwS; obtain ⟨hcS, hfS, hhS⟩ := bcell hwS; go_simp; try (first | (with_reducible rfl) | rw [if_pos (by omega)] | rw [if_neg (by omega)]))
    try simp only [Act.put, List.getElem_toArray, List.getElem_cons_succ, List.getElem_cons_zero, List.setIfInBounds_toArray, List.set_cons_zero, List.set_cons_succ]
    refine stage_read (i := 1) (v := ?_) rfl (by kernel_rfl) (by kernel_rfl) (by kernel_rfl) (by kernel_rfl) (by kernel_rfl) (by kernel_rfl) (fun _ _ _ h => h) (Or.inl ⟨by kernel_rfl, ?_⟩) ?_
    rotate_left
    · (intro wS hwS; obtain ⟨hcS, hfS, hhS⟩ := bcell hwS; go_simp; try (first | (with_reducible rfl) | rw [if_pos (by omega)] | rw [if_neg (by omega)]))
    try simp only [Act.put, List.getElem_toArray, List.getElem_cons_succ, List.getElem_cons_zero, List.setIfInBounds_toArray, List.set_cons_zero, List.set_cons_succ]
    refine stage_read (i := 2) (v := ?_) rfl (by kernel_rfl) (by kernel_rfl) (by kernel_rfl) (by kernel_rfl) (by kernel_rfl) (by kernel_rfl) (fun _ _ _ h => h) (Or.inl ⟨by kernel_rfl, ?_⟩) ?_
    rotate_left
    · (intro wS hwS; obtain ⟨hcS, hfS, hhS⟩ := bcell hwS; go_simp; try (first | (with_reducible rfl) | rw [if_pos (by omega)] | rw [if_neg (by omega)]))
    try simp only [Act.put, List.getElem_toArray, List.getElem_cons_succ, List.getElem_cons_zero, List.setIfInBounds_toArray, List.set_cons_zero, List.set_cons_succ]
    refine stage_read (i := 3) (v := ?_) rfl (by kernel_rfl) (by kernel_rfl) (by kernel_rfl) (by kernel_rfl) (by kernel_rfl) (by kernel_rfl) (fun _ _ _ h => h) (Or.inl ⟨by kernel_rfl, ?_⟩) ?_
    rotate_left
    · (intro wS hwS; obtain ⟨hcS, hfS, hhS⟩ := bcell hwS; go_simp; try (first | (with_reducible rfl) | rw [if_pos (by omega)] | rw [if_neg (by omega)]))
    try simp only [Act.put, List.getElem_toArray, List.getElem_cons_succ, List.getElem_cons_zero, List.setIfInBounds_toArray, List.set_cons_zero, List.set_cons_succ]
    refine stage_read (i := 4) (v := ?_) rfl (by kernel_rfl) (by kernel_rfl) (by kernel_rfl) (by kernel_rfl) (by kernel_rfl) (by kernel_rfl) (fun _ _ _ h => h) (Or.inl ⟨by kernel_rfl, ?_⟩) ?_
    rotate_left
    · (intro wS hwS; obtain ⟨hcS, hfS, hhS⟩ := bcell hwS; go_simp; try (first | (with_reducible rfl) | rw [if_pos (by omega)] | rw [if_neg (by omega)]))
    try simp only [Act.put, List.getElem_toArray, List.getElem_cons_succ, List.getElem_cons_zero, List.setIfInBounds_toArray, List.set_cons_zero, List.set_cons_succ]
    refine stage_read (i := 5) (v := ?_) rfl (by kernel_rfl) (by kernel_rfl) (by kernel_rfl) (by kernel_rfl) (by kernel_rfl) (by kernel_rfl) (fun _ _ _ h => h) (Or.inl ⟨by kernel_rfl, ?_⟩) ?_
    rotate_left
    · (intro wS hwS; obtain ⟨hcS, hfS, hhS⟩ := bcell hwS; go_simp; try (first | (with_reducible rfl) | rw [if_pos (by omega)] | rw [if_neg (by omega)]))
    try simp only [Act.put, List.getElem_toArray, List.getElem_cons_succ, List.getElem_cons_zero, List.setIfInBounds_toArray, List.set_cons_zero, List.set_cons_succ]
    refine stage_end (by kernel_rfl) rfl (fun K hK => ?_)
    go_simp
    refine (rd_arm n _ hrf).mono ?_
    rintro z w6 ⟨rfl, hm6, hr6⟩
    refine hK.out _ _ ?_
    clear hK K
    try simp only [Act.put, List.getElem_toArray, List.getElem_cons_succ, List.getElem_cons_zero, List.setIfInBounds_toArray, List.set_cons_zero, List.set_cons_succ]
    first | refine wpAnyT_done (by kernel_rfl) ?_ _ | refine wpAny_done (by kernel_rfl) ?_ _
    obtain ⟨hbd, hBt, hkl, hkq⟩ := BD.turn H.out.bd HM4.out HD4.out (hm5.trans hm6) hr6
    replace hBt := HB3.out.trans hBt
    have hlg := hkl _ _ _ H.out.lg
    have hrl := hkq _ _ _ H.out.rl
    have hlo := H.out.lo
    clear x0 x1 x2 x3 xf y0 y1 y2 y3 yf l4 l5 hbt h5 hrf hm5 hB4 H HD4 HM4 HB3 hm6 hr6 hkl hkq
    have HBD := Lib.hid hbd
    have HBT := Lib.hid hBt
    have HLG := Lib.hid hlg
    have HRL := Lib.hid hrl
    clear hbd hBt hlg hrl
    go_wp2_with fail
    go_ret
    exact ⟨rfl, HBT.out, N, gl, gq, ⟨s.d.arm n, s.sz, s.dead⟩, by omega, (ok_arm ho n hf1.2).mono (by omega) (by omega), hs.1, by simp only; omega, HBD.out, HLG.out, HRL.out, hlo⟩
  replace e4 : (ki == 4) = false := by simpa using e4
  by_cases e5 : ki = 5
  · subst e5
    have hkk : ∀ v, Below B w v → RdK v v.heap.size A kn kc ks := fun v hb => Rd.more (Rd.below HKS.out hb) (Nat.le_trans HBW.out hb.size)
    have hbt := h.bd.bt
    go_upto_region 13 with fail
    refine region_any (by kernel_rfl) ?_
    change wpAny _ _ _ _ _ _ _ (World.drew _)
    replace hbt := At.drew hbt
    replace h5 := At.drew h5
    replace h := h.drew
    replace hB := hB.drew
    clear x0 x1 x2 x3 xf y0 y1 y2 y3 yf
    generalize World.drew _ = w3 at *
    obtain ⟨⟨x0, x1, x2, x3⟩, xf⟩ := at4 hbt
    obtain ⟨⟨y0, y1, y2, y3⟩, yf⟩ := at4 h5
    have l4 := hbt.lt
    have l5 := h5.lt
    refine stage 6 ?_
    refine stage_read (i := 0) (v := ?_) rfl (by kernel_rfl) (by kernel_rfl) (by kernel_rfl) (by kernel_rfl) (by kernel_rfl) (by kernel_rfl) (fun _ _ _ h => h) (Or.inl ⟨by kernel_rfl, ?_⟩) ?_
    rotate_left
    · (intro wS hwS; obtain ⟨hcS, hfS, hhS⟩ := bcell hwS; go_simp; try (first | (with_reducible rfl) | rw [if_pos (by omega)] | rw [if_neg (by omega)]))
    try simp only [Act.put, List.getElem_toArray, List.getElem_cons_succ, List.getElem_cons_zero, List.setIfInBounds_toArray, List.set_cons_zero, List.set_cons_succ]
    refine stage_read (i := 1) (v := ?_) rfl (by kernel_rfl) (by kernel_rfl) (by kernel_rfl) (by kernel_rfl) (by kernel_rfl) (by kernel_rfl) (fun _ _ _ h => h) (Or.inl ⟨by kernel_rfl, ?_⟩) ?_
    rotate_left
    · (intro wS hwS; obtain ⟨hcS, hfS, hhS⟩ := bcell hwS; go_simp; try (first | (with_reducible rfl) | rw [if_pos (by omega)] | rw [if_neg (by omega)]))
    try simp only [Act.put, List.getElem_toArray, List.getElem_cons_succ, List.getElem_cons_zero, List.setIfInBounds_toArray, List.set_cons_zero, List.set_cons_succ]
    refine stage_read (i := 2) (v := ?_) rfl (by kernel_rfl) (by kernel_rfl) (by kernel_rfl) (by kernel_rfl) (by kernel_rfl) (by kernel_rfl) (fun _ _ _ h => h) (Or.inl ⟨by kernel_rfl, ?_⟩) ?_
    rotate_left
    · (intro wS hwS; obtain ⟨hcS, hfS, hhS⟩ := bcell hwS; go_simp; try (first | (with_reducible rfl) | rw [if_pos (by omega)] | rw [if_neg (by omega)]))
    try simp only [Act.put, List.getElem_toArray, List.getElem_cons_succ, List.getElem_cons_zero, List.setIfInBounds_toArray, List.set_cons_zero, List.set_cons_succ]
    refine stage_read (i := 3) (v := ?_) rfl (by kernel_rfl) (by kernel_rfl) (by kernel_rfl) (by kernel_rfl) (by kernel_rfl) (by kernel_rfl) (fun _ _ _ h => h) (Or.inl ⟨by kernel_rfl, ?_⟩) ?_
    rotate_left
    · (intro wS hwS; obtain ⟨hcS, hfS, hhS⟩ := bcell hwS; go_simp; try (first | (with_reducible rfl) | rw [if_pos (by omega)] | rw [if_neg (by omega)]))
    try simp only [Act.put, List.getElem_toArray, List.getElem_cons_succ, List.getElem_cons_zero, List.setIfInBounds_toArray, List.set_cons_zero, List.set_cons_succ]
    refine stage_read (i := 4) (v := ?_) rfl (by kernel_rfl) (by kernel_rfl) (by kernel_rfl) (by kernel_rfl) (by kernel_rfl) (by kernel_rfl) (fun _ _ _ h => h) (Or.inl ⟨by kernel_rfl, ?_⟩) ?_
    rotate_left
    · (intro wS hwS; obtain ⟨hcS, hfS, hhS⟩ := bcell hwS; go_simp; try (first | (with_reducible rfl) | rw [if_pos (by omega)] | rw [if_neg (by omega)]))
    try simp only [Act.put, List.getElem_toArray, List.getElem_cons_succ, List.getElem_cons_zero, List.setIfInBounds_toArray, List.set_cons_zero, List.set_cons_succ]
    refine stage_read (i := 5) (v := ?_) rfl (by kernel_rfl) (by kernel_rfl) (by kernel_rfl) (by kernel_rfl) (by kernel_rfl) (by kernel_rfl) (fun _ _ _ h => h) (Or.inl ⟨by kernel_rfl, ?_⟩) ?_
    rotate_left
    · (intro wS hwS; obtain ⟨hcS, hfS, hhS⟩ := bcell hwS; go_simp; try (first | (with_reducible rfl) | rw [if_pos (by omega)] | rw [if_neg (by omega)]))
    try simp only [Act.put, List.getElem_toArray, List.getElem_cons_succ, List.getElem_cons_zero, List.setIfInBounds_toArray, List.set_cons_zero, List.set_cons_succ]
    refine stage_end (by kernel_rfl) rfl (fun K hK => ?_)
    go_simp
    refine (pd_crash A kn kc ks _ h.bd.dk ho (by omega) (by omega) (by omega) (fun v hv => hkk v (hB.trans (mod2w (hv.mono fun i o _ _ e => .inr e) h.bd.lo.2.1 h.bd.lo.2.2.1 h.bd.hw))) HKX.out).mono ?_
    rintro z w4 ⟨rfl, hm4, hd4⟩
    refine hK.out _ _ ?_
    clear hK K
    try simp only [Act.put, List.getElem_toArray, List.getElem_cons_succ, List.getElem_cons_zero, List.setIfInBounds_toArray, List.set_cons_zero, List.set_cons_succ]
    first | refine wpAnyT_done (by kernel_rfl) ?_ _ | refine wpAny_done (by kernel_rfl) ?_ _
    clear x0 x1 x2 x3 xf y0 y1 y2 y3 yf l4 l5
    replace hbt := hm4.at hbt (h.bd.dk.freeAt hbt (by decide))
    replace h5 := hm4.at h5 (h.bd.dk.freeAt h5 (by decide))
    have hrf := h.bd.rf.keep h.bd.dk hm4
    have hm5 : Mod (fun i _ => i = gr) w4 w4 := Mod.refl _ _
    have hB4 : Below B w w4 := hB.trans (mod2w hm4 h.bd.lo.2.1 h.bd.lo.2.2.1 h.bd.hw)
    have H := Lib.hid h
    have HD4 := Lib.hid hd4
    have HM4 := Lib.hid hm4
    have HB3 := Lib.hid hB
    clear h hd4 hm4 hB
    obtain ⟨⟨x0, x1, x2, x3⟩, xf⟩ := at4 hbt
    obtain ⟨⟨y0, y1, y2, y3⟩, yf⟩ := at4 h5
    replace hm5 := hm5.drew
    replace hB4 := hB4.drew
    go_upto_region 14 with fail
    refine region_any (by kernel_rfl) ?_
    change wpAny _ _ _ _ _ _ _ (World.drew _)
    replace hbt := At.drew hbt
    replace h5 := At.drew h5
    replace hrf := hrf.drew
    skip
    clear x0 x1 x2 x3 xf y0 y1 y2 y3 yf
    generalize World.drew _ = w5 at *
    obtain ⟨⟨x0, x1, x2, x3⟩, xf⟩ := at4 hbt
    obtain ⟨⟨y0, y1, y2, y3⟩, yf⟩ := at4 h5
    have l4 := hbt.lt
    have l5 := h5.lt
    refine stage 6 ?_
    refine stage_read (i := 0) (v := ?_) rfl (by kernel_rfl) (by kernel_rfl) (by kernel_rfl) (by kernel_rfl) (by kernel_rfl) (by kernel_rfl) (fun _ _ _ h => h) (Or.inl ⟨by kernel_rfl, ?_⟩) ?_
    rotate_left
    · (intro wS hwS; obtain ⟨hcS, hfS, hhS⟩ := bcell hwS; go_simp; try (first | (with_reducible rfl) | rw [if_pos (by omega)] | rw [if_neg (by omega)]))
    try simp only [Act.put, List.getElem_toArray, List.getElem_cons_succ, List.getElem_cons_zero, List.setIfInBounds_toArray, List.set_cons_zero, List.set_cons_succ]
    refine stage_read (i := 1) (v := ?_) rfl (by kernel_rfl) (by kernel_rfl) (by kernel_rfl) (by kernel_rfl) (by kernel_rfl) (by kernel_rfl) (fun _ _ _ h => h) (Or.inl ⟨by kernel_rfl, ?_⟩) ?_
    rotate_left
    · (intro wS hwS; obtain ⟨hcS, hfS, hhS⟩ := bcell hwS; go_simp; try (first | (with_reducible rfl) | rw [if_pos (by omega)] | rw [if_neg (by omega)]))
    try simp only [Act.put, List.getElem_toArray, List.getElem_cons_succ, List.getElem_cons_zero, List.setIfInBounds_toArray, List.set_cons_zero, List.set_cons_succ]
    refine stage_read (i := 2) (v := ?_) rfl (by kernel_rfl) (by kernel_rfl) (by kernel_rfl) (by kernel_rfl) (by kernel_rfl) (by kernel_rfl) (fun _ _ _ h => h) (Or.inl ⟨by kernel_rfl, ?_⟩) ?_
    rotate_left
    · (intro wS hwS; obtain ⟨hcS, hfS, hhS⟩ := bcell hwS; go_simp; try (first | (with_reducible rfl) | rw [if_pos (by omega)] | rw [if_neg (by omega)]))
    try simp only [Act.put, List.getElem_toArray, List.getElem_cons_succ, List.getElem_cons_zero, List.setIfInBounds_toArray, List.set_cons_zero, List.set_cons_succ]
    refine stage_read (i := 3) (v := ?_) rfl (by kernel_rfl) (by kernel_rfl) (by kernel_rfl) (by kernel_rfl) (by kernel_rfl) (by kernel_rfl) (fun _ _ _ h => h) (Or.inl ⟨by kernel_rfl, ?_⟩) ?_
    rotate_left
    · (intro wS hwS; obtain ⟨hcS, hfS, hhS⟩ := bcell hwS; go_simp; try (first | (with_reducible rfl) | rw [if_pos (by omega)] | rw [if_neg (by omega)]))
    try simp only [Act.put, List.getElem_toArray, List.getElem_cons_succ, List.getElem_cons_zero, List.setIfInBounds_toArray, List.set_cons_zero, List.set_cons_succ]
    refine stage_read (i := 4) (v := ?_) rfl (by kernel_rfl) (by kernel_rfl) (by kernel_rfl) (by kernel_rfl) (by kernel_rfl) (by kernel_rfl) (fun _ _ _ h => h) (Or.inl ⟨by kernel_rfl, ?_⟩) ?_
    rotate_left
    · (intro wS hwS; obtain ⟨hcS, hfS, hhS⟩ := bcell hwS; go_simp; try (first | (with_reducible rfl) | rw [if_pos (by omega)] | rw [if_neg (by omega)]))
    try simp only [Act.put, List.getElem_toArray, List.getElem_cons_succ, List.getElem_cons_zero, List.setIfInBounds_toArray, List.set_cons_zero, List.set_cons_succ]
    refine stage_read (i := 5) (v := ?_) rfl (by kernel_rfl) (by kernel_rfl) (by kernel_rfl) (by kernel_rfl) (by kernel_rfl) (by kernel_rfl) (fun _ _ _ h => h) (Or.inl ⟨by kernel_rfl, ?_⟩) ?_
    rotate_left
    · (intro wS hwS; obtain ⟨hcS, hfS, hhS⟩ := bcell hwS; go_simp; try (first | (with_reducible rfl) | rw [if_pos (by omega)] | rw [if_neg (by omega)]))
    try simp only [Act.put, List.getElem_toArray, List.getElem_cons_succ, List.getElem_cons_zero, List.setIfInBounds_toArray, List.set_cons_zero, List.set_cons_succ]
    refine stage_end (by kernel_rfl) rfl (fun K hK => ?_)
    go_simp
    refine (rd_crash A kn kc ks _ hrf ho (by omega) (by omega) (hkk _ hB4) HKX.out).mono ?_
    rintro z w6 ⟨rfl, hm6, hr6⟩
    refine hK.out _ _ ?_
    clear hK K
    try simp only [Act.put, List.getElem_toArray, List.getElem_cons_succ, List.getElem_cons_zero, List.setIfInBounds_toArray, List.set_cons_zero, List.set_cons_succ]
    first | refine wpAnyT_done (by kernel_rfl) ?_ _ | refine wpAny_done (by kernel_rfl) ?_ _
    obtain ⟨hbd, hBt, hkl, hkq⟩ := BD.turn H.out.bd HM4.out HD4.out (hm5.trans hm6) hr6
    replace hBt := HB3.out.trans hBt
    have hlg := hkl _ _ _ H.out.lg
    have hrl := hkq _ _ _ H.out.rl
    have hlo := H.out.lo
    clear x0 x1 x2 x3 xf y0 y1 y2 y3 yf l4 l5 hbt h5 hrf hm5 hB4 H HD4 HM4 HB3 hm6 hr6 hkl hkq
    have HO := open7_any w6 hbd (ok_crash ho ks) (by omega) (by omega) (by omega)
    have HBT := Lib.hid hBt
    have HLG := Lib.hid hlg
    have HRL := Lib.hid hrl
    clear hbd hBt hlg hrl hkk
    go_wp2_with (((with_reducible refine (HO).mono ?_); rintro z w9 ⟨rfl, hop⟩))
    go_ret
    exact ST7.of rfl hK (by omega) hs HBT.out hop HLG.out HRL.out hlo
  replace e5 : (ki == 5) = false := by simpa using e5
  by_cases e6 : ki = 6
  · subst e6
    have HO := open7_any _ h.bd ho (by omega) (by omega) (by omega)
    have H := Lib.hid h
    have HB := Lib.hid hB
    clear h hB h5
    go_wp2_with (((with_reducible refine (HO).mono ?_); rintro z w9 ⟨rfl, hop⟩))
    go_ret
    exact ST7.of rfl hK (by omega) hs HB.out hop H.out.lg H.out.rl H.out.lo
  replace e6 : (ki == 6) = false := by simpa using e6
  by_cases e7 : ki = 7
  · subst e7
    have hpr : ∀ v, Below B w v → RdB v v.heap.size P p.length pc p := fun v hb => (HP0.out.below hb).more (Nat.le_trans HBW.out hb.size)
    go_upto_region 19 with fail
    have k0 : ∀ w' : World, (At w' gb 72 [.pointer (some ⟨gd, 0, none⟩), .pointer (some ⟨gl, 0, none⟩), .pointer (some ⟨gr, 0, none⟩), .pointer (some ⟨gq, 0, none⟩)] ∧ RdB w' w'.heap.size P p.length pc p) → _ := fun w' h => (at4 h.1).1
    have k1 : ∀ w' : World, (At w' gb 72 [.pointer (some ⟨gd, 0, none⟩), .pointer (some ⟨gl, 0, none⟩), .pointer (some ⟨gr, 0, none⟩), .pointer (some ⟨gq, 0, none⟩)] ∧ RdB w' w'.heap.size P p.length pc p) → _ := fun w' h => conv_str h.2
    refine region_begin (fun w' : World => At w' gb 72 [.pointer (some ⟨gd, 0, none⟩), .pointer (some ⟨gl, 0, none⟩), .pointer (some ⟨gr, 0, none⟩), .pointer (some ⟨gq, 0, none⟩)] ∧ RdB w' w'.heap.size P p.length pc p) (by kernel_rfl) (⟨h.bd.bt.drew, hpr _ hB.drew⟩) (fun hHeld => ?_)
    replace h := h.drew
    replace hB := hB.drew
    clear x0 x1 x2 x3 xf y0 y1 y2 y3 yf h5
    generalize World.drew _ = w6 at *
    refine wpAnyH_take (i := 0) (v := ?_) rfl (by kernel_rfl) (by kernel_rfl) (by kernel_rfl) (fun _ _ _ h => h) (Or.inl ⟨by kernel_rfl, ?_⟩) (by assumption) ?_
    rotate_left
    · (intro wS hwS; (try dsimp only at hwS); go_simp; try (first | (with_reducible rfl) | rw [if_pos (by omega)] | rw [if_neg (by omega)]))
    try simp only [Act.put, List.getElem_toArray, List.getElem_cons_succ, List.getElem_cons_zero, List.setIfInBounds_toArray, List.set_cons_zero, List.set_cons_succ]
    refine wpAnyH_take (i := 1) (v := ?_) rfl (by kernel_rfl) (by kernel_rfl) (by kernel_rfl) (fun _ _ _ h => h) (Or.inl ⟨by kernel_rfl, ?_⟩) (by assumption) ?_
    rotate_left
    · (intro wS hwS; (try dsimp only at hwS); go_simp; try (first | (with_reducible rfl) | rw [if_pos (by omega)] | rw [if_neg (by omega)]))
    try simp only [Act.put, List.getElem_toArray, List.getElem_cons_succ, List.getElem_cons_zero, List.setIfInBounds_toArray, List.set_cons_zero, List.set_cons_succ]
    refine wpAnyH_take (i := 2) (v := ?_) rfl (by kernel_rfl) (by kernel_rfl) (by kernel_rfl) (fun _ _ _ h => h) (Or.inl ⟨by kernel_rfl, ?_⟩) (by assumption) ?_
    rotate_left
    · (intro wS hwS; (try dsimp only at hwS); go_simp; try (first | (with_reducible rfl) | rw [if_pos (by omega)] | rw [if_neg (by omega)]))
    try simp only [Act.put, List.getElem_toArray, List.getElem_cons_succ, List.getElem_cons_zero, List.setIfInBounds_toArray, List.set_cons_zero, List.set_cons_succ]
    refine wpAnyH_take (i := 3) (v := ?_) rfl (by kernel_rfl) (by kernel_rfl) (by kernel_rfl) (fun _ _ _ h => h) (Or.inl ⟨by kernel_rfl, ?_⟩) (by assumption) ?_
    rotate_left
    · (intro wS hwS; (try dsimp only at hwS); go_simp; try (first | (with_reducible rfl) | rw [if_pos (by omega)] | rw [if_neg (by omega)]))
    try simp only [Act.put, List.getElem_toArray, List.getElem_cons_succ, List.getElem_cons_zero, List.setIfInBounds_toArray, List.set_cons_zero, List.set_cons_succ]
    refine wpAnyH_take (i := 4) (v := ?_) rfl (by kernel_rfl) (by kernel_rfl) (by kernel_rfl) (fun _ _ _ h => h) (Or.inl ⟨by kernel_rfl, ?_⟩) (by assumption) ?_
    rotate_left
    · (intro wS hwS; (try dsimp only at hwS); go_simp; try (first | (with_reducible rfl) | rw [if_pos (by omega)] | rw [if_neg (by omega)]))
    try simp only [Act.put, List.getElem_toArray, List.getElem_cons_succ, List.getElem_cons_zero, List.setIfInBounds_toArray, List.set_cons_zero, List.set_cons_succ]
    refine wpAnyH_take (i := 6) (v := ?_) rfl (by kernel_rfl) (by kernel_rfl) (by kernel_rfl) (fun _ _ _ h => h) (Or.inl ⟨by kernel_rfl, ?_⟩) (by assumption) ?_
    rotate_left
    · (intro wS hwS; (try dsimp only at hwS); go_simp; try (first | (with_reducible rfl) | rw [if_pos (by omega)] | rw [if_neg (by omega)]))
    try simp only [Act.put, List.getElem_toArray, List.getElem_cons_succ, List.getElem_cons_zero, List.setIfInBounds_toArray, List.set_cons_zero, List.set_cons_succ]
    refine wpAnyH_take (i := 7) (v := ?_) rfl (by kernel_rfl) (by kernel_rfl) (by kernel_rfl) (fun _ _ _ h => h) (Or.inl ⟨by kernel_rfl, ?_⟩) (by assumption) ?_
    rotate_left
    · (intro wS hwS; (try dsimp only at hwS); go_simp; try (first | (with_reducible rfl) | rw [if_pos (by omega)] | rw [if_neg (by omega)]))
    try simp only [Act.put, List.getElem_toArray, List.getElem_cons_succ, List.getElem_cons_zero, List.setIfInBounds_toArray, List.set_cons_zero, List.set_cons_succ]
    refine wpAnyH_take (i := 8) (v := ?_) rfl (by kernel_rfl) (by kernel_rfl) (by kernel_rfl) (fun _ _ _ h => h) (Or.inl ⟨by kernel_rfl, ?_⟩) (by assumption) ?_
    rotate_left
    · (intro wS hwS; (try dsimp only at hwS); go_simp; try (first | (with_reducible rfl) | rw [if_pos (by omega)] | rw [if_neg (by omega)]))
    try simp only [Act.put, List.getElem_toArray, List.getElem_cons_succ, List.getElem_cons_zero, List.setIfInBounds_toArray, List.set_cons_zero, List.set_cons_succ]
    refine wpAnyH_take (i := 9) (v := ?_) rfl (by kernel_rfl) (by kernel_rfl) (by kernel_rfl) (fun _ _ _ h => h) (Or.inl ⟨by kernel_rfl, ?_⟩) (by assumption) ?_
    rotate_left
    · (intro wS hwS; (try dsimp only at hwS); go_simp; try (first | (with_reducible rfl) | rw [if_pos (by omega)] | rw [if_neg (by omega)]))
    try simp only [Act.put, List.getElem_toArray, List.getElem_cons_succ, List.getElem_cons_zero, List.setIfInBounds_toArray, List.set_cons_zero, List.set_cons_succ]
    refine wpAnyH_take (i := 10) (v := ?_) rfl (by kernel_rfl) (by kernel_rfl) (by kernel_rfl) (fun _ _ _ h => h) (Or.inl ⟨by kernel_rfl, ?_⟩) (by assumption) ?_
    rotate_left
    · (intro wS hwS; (try dsimp only at hwS); go_simp; try (first | (with_reducible rfl) | rw [if_pos (by omega)] | rw [if_neg (by omega)]))
    try simp only [Act.put, List.getElem_toArray, List.getElem_cons_succ, List.getElem_cons_zero, List.setIfInBounds_toArray, List.set_cons_zero, List.set_cons_succ]
    refine wpAnyH_take (i := 11) (v := ?_) rfl (by kernel_rfl) (by kernel_rfl) (by kernel_rfl) (fun _ _ _ h => h) (Or.inl ⟨by kernel_rfl, ?_⟩) (by assumption) ?_
    rotate_left
    · (intro wS hwS; (try dsimp only at hwS); go_simp; try (first | (with_reducible rfl) | rw [if_pos (by omega)] | rw [if_neg (by omega)]))
    try simp only [Act.put, List.getElem_toArray, List.getElem_cons_succ, List.getElem_cons_zero, List.setIfInBounds_toArray, List.set_cons_zero, List.set_cons_succ]
    refine region_one 5 (by kernel_rfl) rfl (fun K hK => ?_)
    go_simp
    refine (pd_ap wF wF_hi P p.length pc p _ h.bd.dk ho (by omega) (fun u hG => hpr u (hB.trans (mod2w (bd := bd) (grown_mod' hG) h.bd.lo.2.1 h.bd.lo.2.2.1 h.bd.hw))) (by omega) (by omega)).mono ?_
    rintro z w7 ⟨rfl, hm7, hd7⟩
    have hB7 := hB.trans (mod2w hm7 h.bd.lo.2.1 h.bd.lo.2.2.1 h.bd.hw)
    have h20 := And.intro (hm7.at h.bd.bt (h.bd.dk.freeAt h.bd.bt (by decide))) (hpr _ hB7)
    have hrf7 := h.bd.rf.keep h.bd.dk hm7
    clear hHeld
    refine hK.out _ _ (fun w' : World => At w' gb 72 [.pointer (some ⟨gd, 0, none⟩), .pointer (some ⟨gl, 0, none⟩), .pointer (some ⟨gr, 0, none⟩), .pointer (some ⟨gq, 0, none⟩)] ∧ RdB w' w'.heap.size P p.length pc p) (h20) (fun _ h => h) (fun hHeld => ?_)
    clear hK K
    try simp only [Act.put, List.getElem_toArray, List.getElem_cons_succ, List.getElem_cons_zero, List.setIfInBounds_toArray, List.set_cons_zero, List.set_cons_succ]
    clear h20
    refine region_one 12 (by kernel_rfl) rfl (fun K hK => ?_)
    go_simp
    refine (rd_ap wF p _ hrf7 ho (by omega) (by omega) (by omega)).mono ?_
    rintro z w8 ⟨rfl, hm8, hr8⟩
    obtain ⟨hbd, hBt, hkl, hkq⟩ := BD.turn h.bd hm7 hd7 hm8 hr8
    replace hBt := hB.trans hBt
    clear hHeld
    refine hK.out _ _ (fun w' : World => At w' gb 72 [.pointer (some ⟨gd, 0, none⟩), .pointer (some ⟨gl, 0, none⟩), .pointer (some ⟨gr, 0, none⟩), .pointer (some ⟨gq, 0, none⟩)] ∧ RdB w' w'.heap.size P p.length pc p) (⟨hbd.bt, hpr _ hBt⟩) (fun _ h => h) (fun hHeld => ?_)
    clear hK K
    try simp only [Act.put, List.getElem_toArray, List.getElem_cons_succ, List.getElem_cons_zero, List.setIfInBounds_toArray, List.set_cons_zero, List.set_cons_succ]
    refine wpAnyH_take (i := 13) (v := ?_) rfl (by kernel_rfl) (by kernel_rfl) (by kernel_rfl) (fun _ _ _ h => h) (Or.inl ⟨by kernel_rfl, ?_⟩) (by assumption) ?_
    rotate_left
    · (intro wS hwS; (try dsimp only at hwS); go_simp; try (first | (with_reducible rfl) | rw [if_pos (by omega)] | rw [if_neg (by omega)]))
    try simp only [Act.put, List.getElem_toArray, List.getElem_cons_succ, List.getElem_cons_zero, List.setIfInBounds_toArray, List.set_cons_zero, List.set_cons_succ]
    refine wpAnyH_take (i := 14) (v := ?_) rfl (by kernel_rfl) (by kernel_rfl) (by kernel_rfl) (fun _ _ _ h => h) (Or.inl ⟨by kernel_rfl, ?_⟩) (by assumption) ?_
    rotate_left
    · (intro wS hwS; (try dsimp only at hwS); go_simp; try (first | (with_reducible rfl) | rw [if_pos (by omega)] | rw [if_neg (by omega)]))
    try simp only [Act.put, List.getElem_toArray, List.getElem_cons_succ, List.getElem_cons_zero, List.setIfInBounds_toArray, List.set_cons_zero, List.set_cons_succ]
    refine wpAnyH_done (by kernel_rfl) ?_ _
    have HBD := Lib.hid hbd
    have HBT := Lib.hid hBt
    have HLG := Lib.hid (hkl _ _ _ h.lg)
    have HRL := Lib.hid (hkq _ _ _ h.rl)
    have hlo := h.lo
    clear hbd hBt hkl hkq hm7 hd7 hm8 hr8 hHeld k0 k1 h hB hB7 hrf7 hpr
    go_wp2_with fail
    go_ret
    exact ⟨rfl, HBT.out, N + 1, gl, gq, ⟨s.d.out (s.d.apO wF p), s.sz, s.dead⟩, by omega, (ok_ap ho wF wF_hi p).mono (by omega) (by omega), hs.1, by simp only; omega, HBD.out, HLG.out, HRL.out, hlo⟩
  replace e7 : (ki == 7) = false := by simpa using e7
  have H := Lib.hid h
  have HB := Lib.hid hB
  clear h hB h5
  go_wp2_with fail
  go_ret
  exact ⟨rfl, HB.out, N, gl, gq, s, by omega, ho.mono (by omega) (by omega), hs.1, by omega, H.out⟩
end
end Go.Proofs.Ytmoijbknjadeeaa
