
/- Chapter 9: Do. -/
import Derived.Test.YtcpkaolfafeojaaKvApply
namespace Go.Proofs.Ytcpkaolfafeojaa
set_option linter.unusedVariables false
set_option linter.unusedSimpArgs false
open Go.RowKit
/-- the state behind what is asked -/
def doSt (rev : Int) (l : List It) (o : Ask) : Int × List It :=
  if (planP rev l o).wr && apOk rev l (planP rev l o).eff then ((planP rev l o).eff.r, applyL (planP rev l o).eff.it (planP rev l o).eff.g l) else (rev, l)
def DoR (w w' : World) (g b N : Nat) (rev : Int) (l : List It) (o : Ask) (x : Ending) : Prop :=
  ∃ A n c, x = .returned (.agg #[.int .i64 (planP rev l o).told.code, .int .i64 (planP rev l o).told.rev, .string (planP rev l o).told.val, .slice A n c]) ∧ OwnI w' w.heap.size A n c (planP rev l o).told.items ∧
    IsSt w' g b (N + 1) (doSt rev l o).1 (doSt rev l o).2 ∧ Mod (fun i _ => i = g ∨ i = b) w w' ∧ ((planP rev l o).wr = false → Below w.heap.size w w')
set_option maxRecDepth 100000 in
set_option maxHeartbeats 4000000 in
theorem do_any {g b N : Nat} {rev : Int} {l : List It} (o : Ask) (w : World) (hst : IsSt w g b N rev l) (hN : N < 1000000) (hk : ∀ x ∈ l, x.k.size ≤ 1000) (hks : o.key.size ≤ maxLen) (his : o.iff.size ≤ maxLen) (hek : (planP rev l o).eff.k.size ≤ maxLen) :
    Calls Try.prog 38 #[.pointer (some ⟨g, 0, none⟩), o.v] w fun x w' => DoR w w' g b N rev l o x := by
  have hds : doSt rev l o = doSt rev l o := rfl
  conv at hds => rhs; unfold doSt
  obtain ⟨p, hp⟩ : ∃ p, planP rev l o = p := ⟨_, rfl⟩
  unfold DoR
  have hlt0 := hst.lt
  have HPL := fun w1 (h : IsSt w1 g b N rev l) => plan_any o w1 h (by omega) hk hks his
  rw [hp] at HPL hds hek ⊢
  obtain ⟨D, hD⟩ : ∃ D, doSt rev l o = D := ⟨_, rfl⟩
  rw [hD] at hds ⊢
  clear hp hD
  obtain ⟨⟨pc, pr, pv, pi⟩, ⟨ek, ev, er, eg⟩, wr⟩ := p
  unfold PlanR at HPL
  simp only at HPL hds hek ⊢
  have HPL := Lib.hid HPL
  have HDS := Lib.hid hds
  clear hds hk hks his
  obtain ⟨ki, k, v, r, i, j⟩ := o
  unfold Ask.v Ask.cells at *
  simp only at *
  obtain ⟨h0, h1, hb⟩ := two_at w 37 [.int .i64 ki, .string k, .string v, .int .i64 r, .string i, .int .i64 j] 49 [.int .i64 0, .int .i64 0, .string ⟨#[]⟩, .slice none 0 0]
  have HST := Lib.hid (hst.step hb)
  clear hst
  go_enter Try.func38, Try.ntmps38
  go_upto_region 1 with fail
  generalize hW1 : World.alloc (World.alloc w _) _ = w1 at *
  have hsz : w.heap.size + 2 ≤ w1.heap.size := by rw [← hW1]; simp
  clear hW1
  obtain ⟨⟨x0, x1, x2, x3, x4, x5⟩, xf⟩ := at6 h0
  go_upto_region 2 with (((with_reducible refine calls_id ?_); refine (HPL.out w1 HST.out).mono ?_; rintro y w2 ⟨A2, n2, c2, rfl, hown, hb2⟩))
  obtain ⟨h5, h6, hb3⟩ := two_at w2 49 [.int .i64 pc, .int .i64 pr, .string pv, .slice A2 n2 c2] 60 [.string ek, .string ev, .int .i64 er, .bool eg]
  have hown := own_lower (own_below (show w2.ownsRow _ _ _ _ _ _ from hown) hb3) hsz
  have HST := Lib.hid ((HST.out.step hb2).step hb3)
  replace h1 := (h1.below hb2).below hb3
  replace hb := chain (chain hb hb2) hb3
  have hs2 := hb2.size
  clear hb2 hb3 x0 x1 x2 x3 x4 x5 xf h0
  generalize hg5 : w2.heap.size = g5 at *
  generalize World.alloc (World.alloc _ _) _ = w3 at *
  clear hg5
  have hmod : Mod (fun i _ => i = g ∨ i = b) w w3 := (Mod.refl _ w).below hb
  cases wr with
  | false =>
    have hst4 := HST.out.more (N' := N + 1) (by omega)
    have hds : D = (rev, l) := by rw [HDS.out]; simp
    have HBQ := Lib.hid (show false = false → Below w.heap.size w w3 from fun _ => hb)
    obtain ⟨⟨y0, y1, y2, y3⟩, yf⟩ := at4 h5
    obtain ⟨⟨u0, u1, u2, u3⟩, v0, v1, v2, v3⟩ := at4 h1
    have HM := Lib.hid hst4
    have HH1 := Lib.hid h1
    have HMOD := Lib.hid hmod
    have HOWN := Lib.hid hown
    have HDE := Lib.hid hds
    clear hst4 h1 hmod hown h5 hds
    go_wp2_with fail
    obtain ⟨hm1, hG1⟩ := At.many [(0, .int .i64 pc), (1, .int .i64 pr), (2, .string pv), (3, .slice A2 n2 c2)] HH1.out
    have hst5 := HM.out.only hG1 (by omega) (by omega)
    have hmod5 := HMOD.out.grown hG1 (fun i o hi _ e => by injection e with e; omega)
    have hown5 := own_mod HOWN.out (grown_mod hG1) (fun i o _ hi _ e => by injection e with e; omega)
    have hbq5 := fun h => (HBQ.out h).trans ((Below.refl w.heap.size w3).grown hG1 (HBQ.out h).size (by intro i hi; injection hi with hi; omega))
    dsimp only [setMany, setL, List.set] at hm1 hst5 hmod5 hown5 hbq5
    clear y0 y1 y2 y3 yf u0 u1 u2 u3 v0 v1 v2 v3 hG1
    generalize World.setCell _ _ _ = w5 at *
    obtain ⟨⟨u0, u1, u2, u3⟩, _⟩ := at4 hm1
    exact bodyPost_ret (v := .agg #[.int .i64 pc, .int .i64 pr, .string pv, .slice A2 n2 c2]) (by simp [results, Try.results38, go_sem, u0, u1, u2, u3]) rfl ⟨A2, n2, c2, rfl, own_lower hown5 (by omega), by rw [HDE.out]; exact hst5, hmod5, by first | exact hbq5 | exact hbq5 trivial | exact hbq5 rfl | trivial⟩
  | true =>
    obtain ⟨⟨e0, e1, e2, e3⟩, ef⟩ := at4 h6
    have hap := apply_any ek ev er eg w3 HST.out hN hek
    unfold ApR at hap
    generalize (if apOk rev l ⟨ek, ev, er, eg⟩ = true then (0 : Int) else 1) = ce at hap
    go_upto_region 4 with (((with_reducible refine calls_id ?_); refine hap.mono ?_; rintro y w4 ⟨rfl, hst4, hm4⟩))
    have hds : D = (if apOk rev l ⟨ek, ev, er, eg⟩ then er else rev, if apOk rev l ⟨ek, ev, er, eg⟩ then applyL (Eff.it ⟨ek, ev, er, eg⟩) eg l else l) := by
      rw [HDS.out]; cases apOk rev l ⟨ek, ev, er, eg⟩ <;> simp
    replace hown := own_mod hown hm4 (fun i o _ hi _ e => by rcases e with e | e <;> omega)
    replace h1 := hm4.at h1 (by omega)
    replace h5 := hm4.at h5 (by omega)
    replace hmod := hmod.trans hm4
    clear e0 e1 e2 e3 ef h6 hap hm4 hb
    generalize w4 = w3 at *
    have HBQ := Lib.hid (show true = false → Below w.heap.size w w3 from fun h => by cases h)
    obtain ⟨⟨y0, y1, y2, y3⟩, yf⟩ := at4 h5
    obtain ⟨⟨u0, u1, u2, u3⟩, v0, v1, v2, v3⟩ := at4 h1
    have HM := Lib.hid hst4
    have HH1 := Lib.hid h1
    have HMOD := Lib.hid hmod
    have HOWN := Lib.hid hown
    have HDE := Lib.hid hds
    clear hst4 h1 hmod hown h5 hds
    go_wp2_with fail
    obtain ⟨hm1, hG1⟩ := At.many [(0, .int .i64 pc), (1, .int .i64 pr), (2, .string pv), (3, .slice A2 n2 c2)] HH1.out
    have hst5 := HM.out.only hG1 (by omega) (by omega)
    have hmod5 := HMOD.out.grown hG1 (fun i o hi _ e => by injection e with e; omega)
    have hown5 := own_mod HOWN.out (grown_mod hG1) (fun i o _ hi _ e => by injection e with e; omega)
    have hbq5 := fun h => (HBQ.out h).trans ((Below.refl w.heap.size w3).grown hG1 (HBQ.out h).size (by intro i hi; injection hi with hi; omega))
    dsimp only [setMany, setL, List.set] at hm1 hst5 hmod5 hown5 hbq5
    clear y0 y1 y2 y3 yf u0 u1 u2 u3 v0 v1 v2 v3 hG1
    generalize World.setCell _ _ _ = w5 at *
    obtain ⟨⟨u0, u1, u2, u3⟩, _⟩ := at4 hm1
    exact bodyPost_ret (v := .agg #[.int .i64 pc, .int .i64 pr, .string pv, .slice A2 n2 c2]) (by simp [results, Try.results38, go_sem, u0, u1, u2, u3]) rfl ⟨A2, n2, c2, rfl, own_lower hown5 (by omega), by rw [HDE.out]; exact hst5, hmod5, by first | exact hbq5 | exact hbq5 trivial | exact hbq5 rfl | trivial⟩
end Go.Proofs.Ytcpkaolfafeojaa
