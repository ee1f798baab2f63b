
/- Chapter 9: the document's Plan. -/
import Derived.Test.YtnkjekkdndjfaaaGreatKvRPlan
namespace Go.Proofs.YtnkjekkdndjfaaaGreat
set_option linter.unusedVariables false
set_option linter.unusedSimpArgs false
open Go.RowKit
def RPlanR (w w' : World) (p : Pl) (x : Ending) : Prop :=
  ∃ A n c, x = .returned (.tuple #[.agg #[.int .i64 p.told.code, .int .i64 p.told.rev, .string p.told.val, .slice A n c], .agg #[.string p.eff.k, .string p.eff.v, .int .i64 p.eff.r, .bool p.eff.g], .bool p.wr]) ∧ OwnRI w' w.heap.size A n c p.told.items ∧ Below w.heap.size w w'
theorem Rd.step' {w w' : World} {s n c : Nat} {A : Option Addr} {xs : List Value} (h : Rd w w.heap.size s A n c xs) (hb : Below w.heap.size w w') : Rd w' w'.heap.size s A n c xs := h.step hb
set_option maxRecDepth 100000 in
set_option maxHeartbeats 4000000 in
theorem rplan_get (A : Option Addr) (n c : Nat) (l : List It) (rev : Int) (ki : Int) (k v i : ByteArray) (r j : Int) (w : World) (hr : RdI w w.heap.size A n c l) (hki : ki = 1) :
    Calls Tryz.prog 40 #[.agg #[.int .i64 rev, .slice A n c], .agg #[.int .i64 ki, .string k, .string v, .int .i64 r, .string i, .int .i64 j]] w fun x w' => RPlanR w w' (planP rev l ⟨ki, k, v, r, i, j⟩) x := by
  have hp : planP rev l ⟨ki, k, v, r, i, j⟩ = ⟨⟨(getR l k).1, (getR l k).2.1, (getR l k).2.2, []⟩, Eff.zero, false⟩ := by simp [planP, hki]
  have hk1 : (ki == 1) = true := by rw [hki]; rfl
  clear hki
  cases hf : findI l k with
  | none =>
    have hgr : getR l k = (6, 0, ⟨#[]⟩) := by unfold getR; rw [hf]
    rw [hgr] at hp
    have HP := Lib.hid hp
    clear hp
    have hfo : (findI l k).isSome = false := by rw [hf]; rfl
    obtain ⟨h0, h1, h2, h3, hb⟩ := four_at w 41 [.int .i64 rev, .slice A n c] 50 [.int .i64 ki, .string k, .string v, .int .i64 r, .string i, .int .i64 j] 54 [.int .i64 0, .int .i64 0, .string ⟨#[]⟩, .slice none 0 0] 110 [.string ⟨#[]⟩, .string ⟨#[]⟩, .int .i64 0, .bool false]
    have HR := Lib.hid (hr.step' hb)
    clear hr
    obtain ⟨y, hy⟩ : ∃ y, getI l k = y := ⟨_, rfl⟩
    obtain ⟨yo, hyo⟩ : ∃ yo, (findI l k).isSome = yo := ⟨_, rfl⟩
    have hrf := fun w hr => rfind_any A n c l rev k w hr
    rw [hy, hyo] at hrf
    obtain ⟨yk, yv, yr⟩ := y
    unfold It.val at hrf
    simp only at hrf
    have HRF := Lib.hid hrf
    clear hrf
    go_enter Tryz.func40, Tryz.ntmps40
    go_upto_region 1 with fail
    generalize hW1 : World.alloc (World.alloc (World.alloc (World.alloc w _) _) _) _ = w1 at *
    have hsz : w.heap.size + 4 ≤ w1.heap.size := by rw [← hW1]; simp
    clear hW1
    obtain ⟨⟨s0, s1⟩, sf⟩ := at2 h0
    obtain ⟨⟨x0, x1, x2, x3, x4, x5⟩, xf⟩ := at6 h1
    go_upto_region 2 with (((with_reducible refine calls_id ?_); refine (HRF.out w1 HR.out).mono ?_; rintro z w2 ⟨rfl, hb2⟩))
    obtain ⟨hy7, hb3⟩ := one_at w2 108 [.string yk, .string yv, .int .i64 yr]
    replace hb := chain (chain hb hb2) hb3
    replace h0 := (h0.step hb2).step hb3
    replace h1 := (h1.step hb2).step hb3
    replace h2 := (h2.step hb2).step hb3
    replace h3 := (h3.step hb2).step hb3
    have HR := Lib.hid ((HR.out.step hb2).step hb3)
    replace hsz : w.heap.size + 4 ≤ w2.heap.size := Nat.le_trans hsz hb2.size
    have hs3 := hb3.size
    clear hb2 hb3 s0 s1 sf x0 x1 x2 x3 x4 x5 xf HRF
    generalize World.alloc w2 _ = w3 at *
    obtain ⟨g7, hg7⟩ : ∃ g7, w2.heap.size = g7 := ⟨_, rfl⟩
    rw [hg7] at hy7 hsz hs3 ⊢
    clear hg7
    obtain ⟨⟨s0, s1⟩, sf⟩ := at2 h0
    obtain ⟨⟨x0, x1, x2, x3, x4, x5⟩, xf⟩ := at6 h1
    obtain ⟨⟨u0, u1, u2, u3⟩, v0, v1, v2, v3⟩ := at4 h2
    obtain ⟨⟨p0, p1, p2, p3⟩, q0, q1, q2, q3⟩ := at4 h3
    obtain ⟨⟨y0, y1, y2⟩, yf⟩ := at3 hy7
    have hyo2 : yo = false := hyo.symm.trans hfo
    subst hyo2
    go_wp2_with fail
    obtain ⟨hm1, hG1⟩ := At.many [(0, .int .i64 6), (1, .int .i64 0), (2, .string ⟨#[]⟩), (3, .slice none 0 0)] h2
    have h3' := h3.only hG1 (by omega)
    obtain ⟨hm2, hG2⟩ := At.many [(0, .string ⟨#[]⟩), (1, .string ⟨#[]⟩), (2, .int .i64 0), (3, .bool false)] h3'
    have hm1' := hm1.only hG2 (by omega)
    have hown' := own_mod (own_mod (show OwnRI _ _ _ _ _ _ from OwnRI.nil (w := w3) (B := w3.heap.size)) (grown_mod hG1) (fun i o _ hi _ e => by injection e with e; omega)) (grown_mod hG2) (fun i o _ hi _ e => by injection e with e; omega)
    have hb' := (hb.trans ((Below.refl w.heap.size _).grown hG1 hb.size (by intro i hi; injection hi with hi; omega))).trans ((Below.refl w.heap.size _).grown hG2 (Nat.le_trans hb.size hG1.size) (by intro i hi; injection hi with hi; omega))
    dsimp only [setMany, setL, List.set] at hm1' hm2 hb' hown'
    clear s0 s1 sf x0 x1 x2 x3 x4 x5 xf u0 u1 u2 u3 v0 v1 v2 v3 p0 p1 p2 p3 q0 q1 q2 q3 hG1 hG2 hm1 h2 h3 h3' hb y0 y1 y2 yf
    generalize World.setCell _ _ _ = w5 at *
    obtain ⟨⟨u0, u1, u2, u3⟩, _⟩ := at4 hm1'
    obtain ⟨⟨p0, p1, p2, p3⟩, _⟩ := at4 hm2
    exact bodyPost_ret (v := .tuple #[.agg #[.int .i64 6, .int .i64 0, .string ⟨#[]⟩, .slice none 0 0], .agg #[.string ⟨#[]⟩, .string ⟨#[]⟩, .int .i64 0, .bool false], .bool false]) (by simp [results, Tryz.results40, go_sem, u0, u1, u2, u3, p0, p1, p2, p3]) rfl ⟨_, _, _, by rw [HP.out]; rfl, by rw [HP.out]; exact own_lower hown' (by omega), hb'⟩
  | some q =>
    have hgr : getR l k = (0, q.r, q.v) := by unfold getR; rw [hf]
    have hq2 : getI l k = q := by simp [getI, hf]
    rw [hgr] at hp
    have HP := Lib.hid hp
    clear hp
    have hfo : (findI l k).isSome = true := by rw [hf]; rfl
    obtain ⟨h0, h1, h2, h3, hb⟩ := four_at w 41 [.int .i64 rev, .slice A n c] 50 [.int .i64 ki, .string k, .string v, .int .i64 r, .string i, .int .i64 j] 54 [.int .i64 0, .int .i64 0, .string ⟨#[]⟩, .slice none 0 0] 110 [.string ⟨#[]⟩, .string ⟨#[]⟩, .int .i64 0, .bool false]
    have HR := Lib.hid (hr.step' hb)
    clear hr
    obtain ⟨y, hy⟩ : ∃ y, getI l k = y := ⟨_, rfl⟩
    obtain ⟨yo, hyo⟩ : ∃ yo, (findI l k).isSome = yo := ⟨_, rfl⟩
    have hrf := fun w hr => rfind_any A n c l rev k w hr
    rw [hy, hyo] at hrf
    obtain ⟨yk, yv, yr⟩ := y
    unfold It.val at hrf
    simp only at hrf
    have HRF := Lib.hid hrf
    clear hrf
    go_enter Tryz.func40, Tryz.ntmps40
    go_upto_region 1 with fail
    generalize hW1 : World.alloc (World.alloc (World.alloc (World.alloc w _) _) _) _ = w1 at *
    have hsz : w.heap.size + 4 ≤ w1.heap.size := by rw [← hW1]; simp
    clear hW1
    obtain ⟨⟨s0, s1⟩, sf⟩ := at2 h0
    obtain ⟨⟨x0, x1, x2, x3, x4, x5⟩, xf⟩ := at6 h1
    go_upto_region 2 with (((with_reducible refine calls_id ?_); refine (HRF.out w1 HR.out).mono ?_; rintro z w2 ⟨rfl, hb2⟩))
    obtain ⟨hy7, hb3⟩ := one_at w2 108 [.string yk, .string yv, .int .i64 yr]
    replace hb := chain (chain hb hb2) hb3
    replace h0 := (h0.step hb2).step hb3
    replace h1 := (h1.step hb2).step hb3
    replace h2 := (h2.step hb2).step hb3
    replace h3 := (h3.step hb2).step hb3
    have HR := Lib.hid ((HR.out.step hb2).step hb3)
    replace hsz : w.heap.size + 4 ≤ w2.heap.size := Nat.le_trans hsz hb2.size
    have hs3 := hb3.size
    clear hb2 hb3 s0 s1 sf x0 x1 x2 x3 x4 x5 xf HRF
    generalize World.alloc w2 _ = w3 at *
    obtain ⟨g7, hg7⟩ : ∃ g7, w2.heap.size = g7 := ⟨_, rfl⟩
    rw [hg7] at hy7 hsz hs3 ⊢
    clear hg7
    obtain ⟨⟨s0, s1⟩, sf⟩ := at2 h0
    obtain ⟨⟨x0, x1, x2, x3, x4, x5⟩, xf⟩ := at6 h1
    obtain ⟨⟨u0, u1, u2, u3⟩, v0, v1, v2, v3⟩ := at4 h2
    obtain ⟨⟨p0, p1, p2, p3⟩, q0, q1, q2, q3⟩ := at4 h3
    obtain ⟨⟨y0, y1, y2⟩, yf⟩ := at3 hy7
    have hyo2 : yo = true := hyo.symm.trans hfo
    subst hyo2
    have hqq : q = ⟨yk, yv, yr⟩ := hq2.symm.trans hy
    subst hqq
    go_wp2_with fail
    obtain ⟨hm1, hG1⟩ := At.many [(0, .int .i64 0), (1, .int .i64 yr), (2, .string yv), (3, .slice none 0 0)] h2
    have h3' := h3.only hG1 (by omega)
    obtain ⟨hm2, hG2⟩ := At.many [(0, .string ⟨#[]⟩), (1, .string ⟨#[]⟩), (2, .int .i64 0), (3, .bool false)] h3'
    have hm1' := hm1.only hG2 (by omega)
    have hown' := own_mod (own_mod (show OwnRI _ _ _ _ _ _ from OwnRI.nil (w := w3) (B := w3.heap.size)) (grown_mod hG1) (fun i o _ hi _ e => by injection e with e; omega)) (grown_mod hG2) (fun i o _ hi _ e => by injection e with e; omega)
    have hb' := (hb.trans ((Below.refl w.heap.size _).grown hG1 hb.size (by intro i hi; injection hi with hi; omega))).trans ((Below.refl w.heap.size _).grown hG2 (Nat.le_trans hb.size hG1.size) (by intro i hi; injection hi with hi; omega))
    dsimp only [setMany, setL, List.set] at hm1' hm2 hb' hown'
    clear s0 s1 sf x0 x1 x2 x3 x4 x5 xf u0 u1 u2 u3 v0 v1 v2 v3 p0 p1 p2 p3 q0 q1 q2 q3 hG1 hG2 hm1 h2 h3 h3' hb y0 y1 y2 yf
    generalize World.setCell _ _ _ = w5 at *
    obtain ⟨⟨u0, u1, u2, u3⟩, _⟩ := at4 hm1'
    obtain ⟨⟨p0, p1, p2, p3⟩, _⟩ := at4 hm2
    exact bodyPost_ret (v := .tuple #[.agg #[.int .i64 0, .int .i64 yr, .string yv, .slice none 0 0], .agg #[.string ⟨#[]⟩, .string ⟨#[]⟩, .int .i64 0, .bool false], .bool false]) (by simp [results, Tryz.results40, go_sem, u0, u1, u2, u3, p0, p1, p2, p3]) rfl ⟨_, _, _, by rw [HP.out]; rfl, by rw [HP.out]; exact own_lower hown' (by omega), hb'⟩
end Go.Proofs.YtnkjekkdndjfaaaGreat
