
/- Chapter 11: Compact, where the disk is not lost. -/
import Derived.Test.YtnkjekkdndjfaaaGreatStoreF
namespace Go.Proofs.YtnkjekkdndjfaaaGreat
set_option linter.unusedVariables false
set_option linter.unusedSimpArgs false
open Go.RowKit
section
variable {w w' : World} {gs gd bd N gst bst Ns gl M K : Nat} {d : PD} {s : SL} {sz ev since : Int} {ld dead : Bool}
/-- the disk is turned: the rest stays -/
theorem IsSto.disk (h : IsSto w gs gd bd N gst bst Ns gl d s sz ld ev since dead) {N' : Nat} {d' : PD} (hm : Mod (fun i _ => i = gd ∨ i = bd) w w') (hd : IsD w' gd bd N' d') : IsSto w' gs gd bd N' gst bst Ns gl d' s sz ld ev since dead :=
  ⟨hm.at h.blk (h.dk.freeAt h.blk (by decide)), hd, h.st.dk h.dk hm h.ne, lg_keep h.lg h.dk hm, h.ne⟩
set_option maxRecDepth 100000 in
set_option maxHeartbeats 4000000 in
theorem scompact_ok {q : WL} (w : World) (h : IsSto w gs gd bd N gst bst Ns gl d s sz ld ev since false) (ho : d.Ok M K) (hM : M ≤ 1000000) (hK : K ≤ 90000) (hN : N < 800000) (hNs : Ns ≤ 100000) (hx : ∀ x ∈ s.l, smallI x) (h0 : 0 ≤ s.rev) (h1 : s.rev < 9223372036854775808) (hlen : (stL s.rev s.l).length ≤ 1000000)
    (hc : (svO d (spF snapN) snapN (stL s.rev s.l)).code = 0) (hq : wcP ⟨d.out (svO d (spF snapN) snapN (stL s.rev s.l)), sz, ld⟩ logN = (0, q)) :
    Calls Tryz.prog 22 #[.pointer (some ⟨gs, 0, none⟩)] w fun x w' => x = .returned (.int .i64 0) ∧ Mod (M6 gs gd bd gst bst gl) w w' ∧ IsSto w' gs gd bd (N + 6) gst bst Ns gl q.d s q.sz q.dead ev 0 false := by
  have HPS := putstate_any w h.st hNs hx h0 h1
  have hok1 := sv_ok (b := stL s.rev s.l) ho (by rw [spF_size]; exact snapN_hi) snapN_mx
  have HSV := fun (A : Option Addr) (n c : Nat) (v : World) (hd : IsD v gd bd N d) (hr : RdB v v.heap.size A n c (stL s.rev s.l)) (hn : n ≤ 1000000) => save_any (P := A) (n := n) (pc := c) snapN_lo snapN_hi v hd ho (by omega) (by omega) (by omega) hr hn
  rw [slL_len] at hok1
  obtain ⟨o, hoo⟩ : ∃ o, svO d (spF snapN) snapN (stL s.rev s.l) = o := ⟨_, rfl⟩
  rw [hoo] at hc hq hok1 
  simp only [hoo] at HSV
  unfold SV at HSV
  simp only [hc] at HSV
  have HCL := fun (v : World) (hw : IsW v gl gd bd (N + 4) logN ⟨d.out o, sz, ld⟩) => wclear_any ⟨d.out o, sz, ld⟩ logN_hi v hw hok1 (by omega) (by omega)
  rw [hq] at HCL
  unfold WP at HCL
  simp only at HCL
  obtain ⟨bl, hbl⟩ : ∃ bl, stL s.rev s.l = bl := ⟨_, rfl⟩
  rw [hbl] at HPS hlen
  simp only [hbl] at HSV
  clear hoo hok1 ho hx h0 h1 hq hc hbl
  obtain ⟨⟨x0, x1, x2, x3, x4, x5⟩, xf0, xf1, xf2, xf3, xf4, xf5⟩ := at6 h.blk
  have hm : Mod (M6 gs gd bd gst bst gl) w w := Mod.refl _ w
  go_enter Tryz.func22, Tryz.ntmps22
  go_upto_region 6 with (((with_reducible refine (HPS).mono ?_); rintro z w1 ⟨A, n, c, rfl, hown, hb1⟩))
  have hnl : bl.length = n := hown.length
  have hrd := hown.rd
  replace h := h.step hb1
  replace hm := hm.below hb1
  have HS1 := HSV A n c w1 h.dk hrd (by omega)
  clear HPS HSV hown hb1 x0 x1 x2 x3 x4 x5 xf0 xf1 xf2 xf3 xf4 xf5
  obtain ⟨⟨x0, x1, x2, x3, x4, x5⟩, xf0, xf1, xf2, xf3, xf4, xf5⟩ := at6 h.blk
  go_upto_region 8 with (((with_reducible refine (HS1).mono ?_); rintro z w2 ⟨rfl, hm2, hd2⟩))
  replace hm := hm.trans (hm2.mono (M := M6 gs gd bd gst bst gl) fun i o _ _ e => by unfold M6; omega)
  replace h := h.disk hm2 hd2
  have HC1 := HCL w2 ⟨h.lg, h.dk⟩
  clear HS1 HCL hm2 hd2 hrd x0 x1 x2 x3 x4 x5 xf0 xf1 xf2 xf3 xf4 xf5
  obtain ⟨⟨x0, x1, x2, x3, x4, x5⟩, xf0, xf1, xf2, xf3, xf4, xf5⟩ := at6 h.blk
  go_upto_region 10 with (((with_reducible refine (HC1).mono ?_); rintro z w3 ⟨rfl, hm3, hw3⟩))
  replace hm := hm.trans (hm3.mono (M := M6 gs gd bd gst bst gl) fun i o _ _ e => by unfold M6; omega)
  replace h := h.log hm3 hw3
  clear HC1 hm3 hw3 x0 x1 x2 x3 x4 x5 xf0 xf1 xf2 xf3 xf4 xf5
  obtain ⟨⟨x0, x1, x2, x3, x4, x5⟩, xf0, xf1, xf2, xf3, xf4, xf5⟩ := at6 h.blk
  obtain ⟨h5, hG5⟩ := At.many [(5, .bool false)] h.blk
  dsimp only [setMany, setL, List.set] at h5 hG5
  have hm5 := mod_one hG5
  replace h := h.own hm5 h5
  replace hm := hm.trans (hm5.mono (M := M6 gs gd bd gst bst gl) fun i o _ _ e => by unfold M6; omega)
  clear hG5 hm5 h5
  go_upto_region 11 with fail
  clear x0 x1 x2 x3 x4 x5 xf0 xf1 xf2 xf3 xf4 xf5
  generalize World.setCell _ _ _ = w4 at *
  obtain ⟨⟨x0, x1, x2, x3, x4, x5⟩, xf0, xf1, xf2, xf3, xf4, xf5⟩ := at6 h.blk
  obtain ⟨h5, hG5⟩ := At.many [(4, .int .i64 0)] h.blk
  dsimp only [setMany, setL, List.set] at h5 hG5
  have hm5 := mod_one hG5
  have H5 := Lib.hid (h.own hm5 h5)
  have HM := Lib.hid (hm.trans (hm5.mono (M := M6 gs gd bd gst bst gl) fun i o _ _ e => by unfold M6; omega))
  clear hG5 hm5 h5 h hm
  go_wp2_with fail
  go_ret
  exact ⟨rfl, HM.out, H5.out⟩
end
end Go.Proofs.YtnkjekkdndjfaaaGreat
