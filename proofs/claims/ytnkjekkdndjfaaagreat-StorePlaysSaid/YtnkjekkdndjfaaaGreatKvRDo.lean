
/- Chapter 9: the document's Do. -/
import Derived.Test.YtnkjekkdndjfaaaGreatKvRPlanA
import Derived.Test.YtnkjekkdndjfaaaGreatKvRPlanB
import Derived.Test.YtnkjekkdndjfaaaGreatKvRApply
namespace Go.Proofs.YtnkjekkdndjfaaaGreat
set_option linter.unusedVariables false
set_option linter.unusedSimpArgs false
open Go.RowKit
theorem rplan_any (A : Option Addr) (n c : Nat) (l : List It) (rev : Int) (o : Ask) (w : World) (hr : RdI w w.heap.size A n c l) (hn : n ≤ 1000000) :
    Calls Tryz.prog 40 #[.agg #[.int .i64 rev, .slice A n c], o.v] w fun x w' => RPlanR w w' (planP rev l o) x := by
  obtain ⟨ki, k, v, r, i, j⟩ := o
  unfold Ask.v Ask.cells
  simp only
  by_cases h1 : ki = 1
  · exact rplan_get A n c l rev ki k v i r j w hr h1
  by_cases h2 : ki = 2
  · exact rplan_list A n c l rev ki k v i r j w hr hn h2
  by_cases hb : ki < 3 ∨ 5 < ki
  · exact rplan_bad A n c l rev ki k v i r j w hr h1 h2 hb
  by_cases hm : mayE l ⟨ki, k, v, r, i, j⟩ = 0
  · by_cases h3 : ki = 3
    · exact rplan_ok3 A n c l rev ki k v i r j w hr h3 hm
    by_cases h4 : ki = 4
    · exact rplan_ok4 A n c l rev ki k v i r j w hr h4 hm
    · exact rplan_ok5 A n c l rev ki k v i r j w hr (by omega) hm
  · by_cases h3 : ki = 3
    · exact rplan_no3 A n c l rev ki k v i r j w hr h3 hm
    by_cases h4 : ki = 4
    · exact rplan_no4 A n c l rev ki k v i r j w hr h4 hm
    · exact rplan_no5 A n c l rev ki k v i r j w hr (by omega) hm
def RDoR (w w' : World) (B0 : Nat) (rev : Int) (l : List It) (o : Ask) (x : Ending) : Prop :=
  ∃ A2 n2 c2 A3 n3 c3, x = .returned (.tuple #[.agg #[.int .i64 (doSt rev l o).1, .slice A2 n2 c2], .agg #[.int .i64 (planP rev l o).told.code, .int .i64 (planP rev l o).told.rev, .string (planP rev l o).told.val, .slice A3 n3 c3]]) ∧
    OwnRI w' B0 A2 n2 c2 (doSt rev l o).2 ∧ OwnRI w' w.heap.size A3 n3 c3 (planP rev l o).told.items ∧ Below w.heap.size w w'
set_option maxRecDepth 100000 in
set_option maxHeartbeats 4000000 in
theorem rdo_any (A : Option Addr) (n c B0 : Nat) (l : List It) (rev : Int) (o : Ask) (w : World) (hr : OwnRI w B0 A n c l) (hB0 : B0 ≤ w.heap.size) (hn : n ≤ 1000000) (hlo : 0 ≤ rev) (hhi : rev < 9223372036854775807) :
    Calls Tryz.prog 17 #[.agg #[.int .i64 rev, .slice A n c], o.v] w fun x w' => RDoR w w' B0 rev l o x := by
  have hds : doSt rev l o = if (planP rev l o).wr then ((planP rev l o).eff.r, applyL (planP rev l o).eff.it (planP rev l o).eff.g l) else (rev, l) := by
    unfold doSt
    cases hw : (planP rev l o).wr with
    | false => simp
    | true => rw [plan_ap hw hlo hhi]; simp
  unfold RDoR
  have HPL := fun w1 (h : RdI w1 w1.heap.size A n c l) => rplan_any A n c l rev o w1 h hn
  generalize planP rev l o = p at *
  generalize doSt rev l o = D at *
  obtain ⟨⟨pc, pr, pv, pi⟩, ⟨ek, ev, er, eg⟩, wr⟩ := p
  unfold RPlanR at HPL
  simp only at HPL hds ⊢
  have HPL := Lib.hid HPL
  have HDS := Lib.hid hds
  clear hds hlo hhi
  obtain ⟨ki, k, v, r, i, j⟩ := o
  unfold Ask.v Ask.cells at *
  simp only at *
  obtain ⟨h0, h1, h2, h3, hb⟩ := four_at w 41 [.int .i64 rev, .slice A n c] 50 [.int .i64 ki, .string k, .string v, .int .i64 r, .string i, .int .i64 j] 41 [.int .i64 0, .slice none 0 0] 54 [.int .i64 0, .int .i64 0, .string ⟨#[]⟩, .slice none 0 0]
  have HR0 := Lib.hid hr
  have HR := Lib.hid ((OwnRI.rd hr).step' hb)
  clear hr
  go_enter Tryz.func17, Tryz.ntmps17
  go_upto_region 1 with fail
  generalize hW1 : World.alloc (World.alloc (World.alloc (World.alloc w _) _) _) _ = w1 at *
  have hsz : w.heap.size + 4 ≤ w1.heap.size := by rw [← hW1]; simp
  clear hW1
  obtain ⟨⟨s0, s1⟩, sf⟩ := at2 h0
  obtain ⟨⟨x0, x1, x2, x3, x4, x5⟩, xf⟩ := at6 h1
  go_upto_region 2 with (((with_reducible refine calls_id ?_); refine (HPL.out w1 HR.out).mono ?_; rintro y w2 ⟨A3, n3, c3, rfl, hown, hb2⟩))
  obtain ⟨h6, h7, hb3⟩ := two_at w2 54 [.int .i64 pc, .int .i64 pr, .string pv, .slice A3 n3 c3] 110 [.string ek, .string ev, .int .i64 er, .bool eg]
  replace hown := own_lower (own_below (show w2.ownsRow _ _ _ _ _ _ from hown) hb3) hsz
  have HR := Lib.hid ((HR.out.step' hb2).step' hb3)
  replace h0 := (h0.step hb2).step hb3
  replace h2 := (h2.step hb2).step hb3
  replace h3 := (h3.step hb2).step hb3
  replace hb := chain (chain hb hb2) hb3
  have hs2 : w.heap.size + 4 ≤ w2.heap.size := Nat.le_trans hsz hb2.size
  have hs3 := hb3.size
  clear hb2 hb3 s0 s1 sf x0 x1 x2 x3 x4 x5 xf h1 HPL hsz
  generalize World.alloc (World.alloc _ _) _ = w3 at *
  obtain ⟨g6, hg6⟩ : ∃ g6, w2.heap.size = g6 := ⟨_, rfl⟩
  rw [hg6] at h6 h7 hs2 hs3 ⊢
  clear hg6
  cases wr with
  | false =>
    have hD : D = (rev, l) := by rw [HDS.out]; simp
    subst hD
    go_upto_region 4 with fail
    have k0 : ∀ w' : World, At w' w.heap.size 41 [.int .i64 rev, .slice A n c] ∧ At w' g6 54 [.int .i64 pc, .int .i64 pr, .string pv, .slice A3 n3 c3] → _ := fun w' h => (at2 h.1).1
    have k1 : ∀ w' : World, At w' w.heap.size 41 [.int .i64 rev, .slice A n c] ∧ At w' g6 54 [.int .i64 pc, .int .i64 pr, .string pv, .slice A3 n3 c3] → _ := fun w' h => (at4 h.2).1
    refine region_begin (fun w' : World => At w' w.heap.size 41 [.int .i64 rev, .slice A n c] ∧ At w' g6 54 [.int .i64 pc, .int .i64 pr, .string pv, .slice A3 n3 c3]) (by kernel_rfl) (⟨h0.drew, h6.drew⟩) (fun hHeld => ?_)
    replace h2 := h2.drew
    replace h3 := h3.drew
    replace hb := hb.drew
    replace hown := (show w3.drew.ownsRow _ _ _ _ _ _ from hown)
    clear h0 h6 h7
    generalize World.drew _ = w6 at *
    refine tag [0,1] ?_
    iterate 2 (
      refine sH (v := ?_) rfl (by kernel_rfl) (fun _ _ _ h => h) (Or.inl ⟨by kernel_rfl, ?_⟩) (by assumption) ?_
      rotate_left
      · (intro wS hwS; (try dsimp only at hwS); go_simp; try (first | (with_reducible rfl) | rw [if_pos (by omega)] | rw [if_neg (by omega)]))
      try simp only [PT])
    refine tagN ?_
    obtain ⟨⟨s0, s1⟩, sf0, sf1⟩ := at2 h2
    refine region_one 2 (by kernel_rfl) rfl (fun K hK => ?_)
    go_simp
    obtain ⟨hm1, hG1⟩ := At.many [(0, .int .i64 rev), (1, .slice A n c)] h2
    dsimp only [setMany, setL, List.set] at hm1 hG1
    replace h3 := h3.only hG1 (by omega)
    have h8 : At _ w.heap.size 41 [.int .i64 rev, .slice A n c] ∧ At _ g6 54 [.int .i64 pc, .int .i64 pr, .string pv, .slice A3 n3 c3] := ⟨hHeld.1.only hG1 (by omega), hHeld.2.only hG1 (by omega)⟩
    have hown := own_mod (show World.ownsRow _ _ _ _ _ _ _ from hown) (grown_mod hG1) (fun i o _ hi _ e => by injection e with e; omega)
    skip
    replace hb := hb.trans ((Below.refl w.heap.size _).grown hG1 hb.size (by intro i hi; injection hi with hi; omega))
    clear s0 s1 sf0 sf1 h2 hG1 hHeld
    generalize World.setCell _ _ _ = w7 at *
    refine hK.out _ _ (fun w' : World => At w' w.heap.size 41 [.int .i64 rev, .slice A n c] ∧ At w' g6 54 [.int .i64 pc, .int .i64 pr, .string pv, .slice A3 n3 c3]) (h8) (fun _ h => h) (fun hHeld => ?_)
    clear hK K
    try simp only [PT]
    obtain ⟨⟨u0, u1, u2, u3⟩, v0, v1, v2, v3⟩ := at4 h3
    refine region_one 3 (by kernel_rfl) rfl (fun K hK => ?_)
    go_simp
    obtain ⟨hm2, hG2⟩ := At.many [(0, .int .i64 pc), (1, .int .i64 pr), (2, .string pv), (3, .slice A3 n3 c3)] h3
    dsimp only [setMany, setL, List.set] at hm2 hG2
    replace hm1 := hm1.only hG2 (by omega)
    have h8 : At _ w.heap.size 41 [.int .i64 rev, .slice A n c] ∧ At _ g6 54 [.int .i64 pc, .int .i64 pr, .string pv, .slice A3 n3 c3] := ⟨hHeld.1.only hG2 (by omega), hHeld.2.only hG2 (by omega)⟩
    have hown := own_mod (show World.ownsRow _ _ _ _ _ _ _ from hown) (grown_mod hG2) (fun i o _ hi _ e => by injection e with e; omega)
    skip
    replace hb := hb.trans ((Below.refl w.heap.size _).grown hG2 hb.size (by intro i hi; injection hi with hi; omega))
    clear u0 u1 u2 u3 v0 v1 v2 v3 h3 hG2 hHeld
    generalize World.setCell _ _ _ = w8 at *
    refine hK.out _ _ (fun w' : World => At w' w.heap.size 41 [.int .i64 rev, .slice A n c] ∧ At w' g6 54 [.int .i64 pc, .int .i64 pr, .string pv, .slice A3 n3 c3]) (h8) (fun _ h => h) (fun hHeld => ?_)
    clear hK K
    try simp only [PT]
    refine wpAnyH_done (by kernel_rfl) ?_ _
    clear hHeld h8
    obtain ⟨⟨s0, s1⟩, _⟩ := at2 hm1
    obtain ⟨⟨u0, u1, u2, u3⟩, _⟩ := at4 hm2
    go_wp2_with fail
    exact bodyPost_ret (v := .tuple #[.agg #[.int .i64 rev, .slice A n c], .agg #[.int .i64 pc, .int .i64 pr, .string pv, .slice A3 n3 c3]]) (by simp [results, Tryz.results17, go_sem, s0, s1, u0, u1, u2, u3]) rfl ⟨A, n, c, A3, n3, c3, rfl, HR0.out.step hb, own_lower hown (by omega), hb⟩
  | true =>
    have hD : D = (er, applyL ⟨ek, ev, er⟩ eg l) := by rw [HDS.out]; simp [Eff.it]
    subst hD
    go_upto_region 3 with fail
    have k0 : ∀ w' : World, At w' w.heap.size 41 [.int .i64 rev, .slice A n c] ∧ At w' (g6 + 1) 110 [.string ek, .string ev, .int .i64 er, .bool eg] ∧ At w' g6 54 [.int .i64 pc, .int .i64 pr, .string pv, .slice A3 n3 c3] → _ := fun w' h => (at2 h.1).1
    have k1 : ∀ w' : World, At w' w.heap.size 41 [.int .i64 rev, .slice A n c] ∧ At w' (g6 + 1) 110 [.string ek, .string ev, .int .i64 er, .bool eg] ∧ At w' g6 54 [.int .i64 pc, .int .i64 pr, .string pv, .slice A3 n3 c3] → _ := fun w' h => (at4 h.2.1).1
    have k2 : ∀ w' : World, At w' w.heap.size 41 [.int .i64 rev, .slice A n c] ∧ At w' (g6 + 1) 110 [.string ek, .string ev, .int .i64 er, .bool eg] ∧ At w' g6 54 [.int .i64 pc, .int .i64 pr, .string pv, .slice A3 n3 c3] → _ := fun w' h => (at4 h.2.2).1
    refine region_begin (fun w' : World => At w' w.heap.size 41 [.int .i64 rev, .slice A n c] ∧ At w' (g6 + 1) 110 [.string ek, .string ev, .int .i64 er, .bool eg] ∧ At w' g6 54 [.int .i64 pc, .int .i64 pr, .string pv, .slice A3 n3 c3]) (by kernel_rfl) (⟨h0.drew, h7.drew, h6.drew⟩) (fun hHeld => ?_)
    replace h2 := h2.drew
    replace h3 := h3.drew
    replace hb := hb.drew
    replace hown := (show w3.drew.ownsRow _ _ _ _ _ _ from hown)
    have HR := Lib.hid (show RdI w3.drew w3.drew.heap.size A n c l from HR.out.drewN 1)
    replace hs3 : g6 ≤ w3.drew.heap.size := hs3
    clear h0 h6 h7
    generalize World.drew _ = w6 at *
    refine tag [0,1,3] ?_
    iterate 3 (
      refine sH (v := ?_) rfl (by kernel_rfl) (fun _ _ _ h => h) (Or.inl ⟨by kernel_rfl, ?_⟩) (by assumption) ?_
      rotate_left
      · (intro wS hwS; (try dsimp only at hwS); go_simp; try (first | (with_reducible rfl) | rw [if_pos (by omega)] | rw [if_neg (by omega)]))
      try simp only [PT])
    refine tagN ?_
    clear k0 k1 k2
    refine region_one 2 (by kernel_rfl) rfl (fun K hK => ?_)
    go_simp
    refine (rapply_any A n c l rev ek ev er eg _ HR.out hn).mono ?_
    rintro z w7 ⟨A2, n2, c2, rfl, hown2, hb7⟩
    have h8 : At _ w.heap.size 41 [.int .i64 rev, .slice A n c] ∧ At _ (g6 + 1) 110 [.string ek, .string ev, .int .i64 er, .bool eg] ∧ At _ g6 54 [.int .i64 pc, .int .i64 pr, .string pv, .slice A3 n3 c3] := ⟨hHeld.1.step hb7, hHeld.2.1.step hb7, hHeld.2.2.step hb7⟩
    replace h2 := h2.step hb7
    replace h3 := h3.step hb7
    replace hb := chain hb hb7
    replace hown := own_below (show World.ownsRow _ _ _ _ _ _ _ from hown) hb7
    have hbs : w.heap.size + 4 ≤ w6.heap.size := by omega
    replace hown2 := own_lower (show World.ownsRow _ _ _ _ _ _ _ from hown2) hbs
    clear hHeld hb7
    refine hK.out _ _ (fun w' : World => At w' w.heap.size 41 [.int .i64 rev, .slice A n c] ∧ At w' (g6 + 1) 110 [.string ek, .string ev, .int .i64 er, .bool eg] ∧ At w' g6 54 [.int .i64 pc, .int .i64 pr, .string pv, .slice A3 n3 c3]) (h8) (fun _ h => h) (fun hHeld => ?_)
    clear hK K
    try simp only [PT]
    clear h8
    obtain ⟨⟨s0, s1⟩, sf0, sf1⟩ := at2 h2
    refine region_one 4 (by kernel_rfl) rfl (fun K hK => ?_)
    go_simp
    obtain ⟨hm1, hG1⟩ := At.many [(0, .int .i64 er), (1, .slice A2 n2 c2)] h2
    dsimp only [setMany, setL, List.set] at hm1 hG1
    replace h3 := h3.only hG1 (by omega)
    have h8 : At _ w.heap.size 41 [.int .i64 rev, .slice A n c] ∧ At _ (g6 + 1) 110 [.string ek, .string ev, .int .i64 er, .bool eg] ∧ At _ g6 54 [.int .i64 pc, .int .i64 pr, .string pv, .slice A3 n3 c3] := ⟨hHeld.1.only hG1 (by omega), hHeld.2.1.only hG1 (by omega), hHeld.2.2.only hG1 (by omega)⟩
    have hown := own_mod (show World.ownsRow _ _ _ _ _ _ _ from hown) (grown_mod hG1) (fun i o _ hi _ e => by injection e with e; omega)
    have hown2 := own_mod hown2 (grown_mod hG1) (fun i o _ hi _ e => absurd (Option.some.inj e) (by omega))
    replace hb := hb.trans ((Below.refl w.heap.size _).grown hG1 hb.size (by intro i hi; injection hi with hi; omega))
    clear s0 s1 sf0 sf1 h2 hG1 hHeld
    generalize World.setCell _ _ _ = w7 at *
    refine hK.out _ _ (fun w' : World => At w' w.heap.size 41 [.int .i64 rev, .slice A n c] ∧ At w' (g6 + 1) 110 [.string ek, .string ev, .int .i64 er, .bool eg] ∧ At w' g6 54 [.int .i64 pc, .int .i64 pr, .string pv, .slice A3 n3 c3]) (h8) (fun _ h => h) (fun hHeld => ?_)
    clear hK K
    try simp only [PT]
    obtain ⟨⟨u0, u1, u2, u3⟩, v0, v1, v2, v3⟩ := at4 h3
    refine region_one 5 (by kernel_rfl) rfl (fun K hK => ?_)
    go_simp
    obtain ⟨hm2, hG2⟩ := At.many [(0, .int .i64 pc), (1, .int .i64 pr), (2, .string pv), (3, .slice A3 n3 c3)] h3
    dsimp only [setMany, setL, List.set] at hm2 hG2
    replace hm1 := hm1.only hG2 (by omega)
    have h8 : At _ w.heap.size 41 [.int .i64 rev, .slice A n c] ∧ At _ (g6 + 1) 110 [.string ek, .string ev, .int .i64 er, .bool eg] ∧ At _ g6 54 [.int .i64 pc, .int .i64 pr, .string pv, .slice A3 n3 c3] := ⟨hHeld.1.only hG2 (by omega), hHeld.2.1.only hG2 (by omega), hHeld.2.2.only hG2 (by omega)⟩
    have hown := own_mod (show World.ownsRow _ _ _ _ _ _ _ from hown) (grown_mod hG2) (fun i o _ hi _ e => by injection e with e; omega)
    have hown2 := own_mod hown2 (grown_mod hG2) (fun i o _ hi _ e => absurd (Option.some.inj e) (by omega))
    replace hb := hb.trans ((Below.refl w.heap.size _).grown hG2 hb.size (by intro i hi; injection hi with hi; omega))
    clear u0 u1 u2 u3 v0 v1 v2 v3 h3 hG2 hHeld
    generalize World.setCell _ _ _ = w8 at *
    refine hK.out _ _ (fun w' : World => At w' w.heap.size 41 [.int .i64 rev, .slice A n c] ∧ At w' (g6 + 1) 110 [.string ek, .string ev, .int .i64 er, .bool eg] ∧ At w' g6 54 [.int .i64 pc, .int .i64 pr, .string pv, .slice A3 n3 c3]) (h8) (fun _ h => h) (fun hHeld => ?_)
    clear hK K
    try simp only [PT]
    refine wpAnyH_done (by kernel_rfl) ?_ _
    clear hHeld h8
    obtain ⟨⟨s0, s1⟩, _⟩ := at2 hm1
    obtain ⟨⟨u0, u1, u2, u3⟩, _⟩ := at4 hm2
    go_wp2_with fail
    exact bodyPost_ret (v := .tuple #[.agg #[.int .i64 er, .slice A2 n2 c2], .agg #[.int .i64 pc, .int .i64 pr, .string pv, .slice A3 n3 c3]]) (by simp [results, Tryz.results17, go_sem, s0, s1, u0, u1, u2, u3]) rfl ⟨A2, n2, c2, A3, n3, c3, rfl, own_lower hown2 (by omega), own_lower hown (by omega), hb⟩
end Go.Proofs.YtnkjekkdndjfaaaGreat
