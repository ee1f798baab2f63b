
/- Chapter 6: the document's Remove, Rename, Append, Crash. -/
import Derived.Test.YtmoijbknjadeeaaRfOps
namespace Go.Proofs.Ytmoijbknjadeeaa
set_option linter.unusedVariables false
set_option linter.unusedSimpArgs false
open Go.RowKit
section
variable {w w' : World} {g : Nat} {l : List Fi} {lost armed : Bool} {left : Int}
set_option maxRecDepth 100000 in
set_option maxHeartbeats 2000000 in
theorem rremove_go (k : ByteArray) (w : World) (h : IsRf w g l lost (rl armed left)) (hl : 0 ≤ left ∧ left < 9223372036854775808) (hf : (findF l k).isSome = true) (hn : l.length ≤ 1000000) :
    Calls Try.prog 57 #[.pointer (some ⟨g, 0, none⟩), .string k] w fun x w' => RgR w w' g l armed (wrP lost armed left) (withoutF l k) x := by
  have HF := rFind_any k w h
  unfold foundV at HF
  rw [hf] at HF
  obtain ⟨how, hhow, hh1, HW⟩ := rwr_any w h hl
  obtain ⟨q, hq⟩ : ∃ q, wrP lost armed left = q := ⟨_, rfl⟩
  rw [hq] at hhow HW ⊢
  clear hq hh1
  obtain ⟨code, now, lost', left'⟩ := q
  simp only at hhow HW
  obtain ⟨y, hy⟩ : ∃ y, getF l k = y := ⟨_, rfl⟩
  rw [hy] at HF
  try rw [hy]
  have HY := Lib.hid hy
  clear hy
  obtain ⟨yk, yb, yA, yn, yc, ys⟩ := y
  simp only at HF
  try simp only
  have HW := Lib.hid HW
  have H := Lib.hid h
  clear h
  go_enter Try.func57, Try.ntmps57
  go_upto_region 2 with (((with_reducible refine (HF).mono ?_); rintro z w1 ⟨rfl, hb1⟩))
  obtain ⟨h5, hb2⟩ := one_at w1 52 [.string yk, .string ⟨yb.toArray⟩, .int .i64 ys]
  have hm2 := (Mod.refl (fun i _ => i = g) w).below (chain hb1 hb2)
  have h := (H.out.step hb1).step hb2
  have hgl := h.lt
  have hgw1 := (H.out.step hb1).lt
  clear HF hb1 hb2 H
  generalize World.alloc w1 _ = w2 at *
  generalize w1.heap.size = g5 at *
  have HW := HW.out w2 h
  obtain ⟨⟨y0, y1, y2⟩, yf⟩ := at3 h5
  rcases hhow with ⟨rfl, rfl⟩ | ⟨hpos, rfl⟩
  rotate_left
  ·
    have hd : decide (0 < how) = true := decide_eq_true hpos
    go_wp2_with (((with_reducible refine (HW).mono ?_); rintro z w3 ⟨rfl, h3, hG3⟩))
    go_ret
    exact ⟨rfl, hm2.grown hG3 (fun i o _ _ e => (Option.some.inj e).symm), by rw [if_neg (show ¬ (12 : Int) = 0 by decide)]; exact h3⟩
  ·
    go_upto_region 6 with (((with_reducible refine (HW).mono ?_); rintro z w3 ⟨rfl, h3, hG3⟩))
    replace h5 := h5.only hG3 (by omega)
    have hm3 := hm2.grown hG3 (fun i o _ _ e => (Option.some.inj e).symm)
    clear HW hG3 hm2 y0 y1 y2 yf h
    obtain ⟨⟨y0, y1, y2⟩, yf⟩ := at3 h5
    clear y0 y1 y2 yf h5
    have HWO := rwithout_any k w3 h3 hn
    have hwl : (withoutF l k).length ≤ 1000000 := Nat.le_trans (List.length_filter_le _ _) hn
    obtain ⟨q, hqe⟩ : ∃ q, withoutF l k = q := ⟨_, rfl⟩
    rw [hqe] at HWO hwl
    have HQE := Lib.hid hqe
    clear hqe
    go_upto_region 7 with (((with_reducible refine (HWO).mono ?_); rintro z w4 ⟨A4, c4, rfl, hown4, hb4⟩); (have h34 := h3.step hb4); (obtain ⟨Ad, cd, hd, hod⟩ := h34.ex); (obtain ⟨⟨z0, z1, z2⟩, zf0, zf1, zf2⟩ := at3 hd))
    obtain ⟨hat, hG⟩ := At.many [(0, .slice A4 q.length c4)] hd
    dsimp only [setMany, setL, List.set] at hat hG
    have hfin := IsRf.turn (l' := q) hd (own_lower (show World.ownsRow _ _ _ _ _ _ _ from hown4) (Nat.zero_le _)) hG hat
    have hm4 := (hm3.below hb4).grown hG (fun i o _ _ e => (Option.some.inj e).symm)
    have HFIN := Lib.hid hfin
    have HM := Lib.hid hm4
    clear hfin hm4 hat hG h34 hd hod hown4 hb4
    go_wp2_with fail
    go_ret
    exact ⟨rfl, HM.out, by rw [if_pos rfl, HQE.out]; exact HFIN.out⟩
set_option maxRecDepth 100000 in
set_option maxHeartbeats 2000000 in
theorem rrename_arg (k to : ByteArray) (w : World) (h : IsRf w g l lost left) (hf : (findF l k).isSome = true) (ht : to.size = 0 ∨ to = k) :
    Calls Try.prog 56 #[.pointer (some ⟨g, 0, none⟩), .string k, .string to] w fun x w' => x = .returned (.int .i64 1) ∧ IsRf w' g l lost left ∧ Below w.heap.size w w' := by
  have HF := rFind_any k w h
  unfold foundV at HF
  rw [hf] at HF
  generalize getF l k = y at *
  obtain ⟨yk, yb, yA, yn, yc, ys⟩ := y
  simp only at HF
  have he := emptyS_iff to
  have hte : (to.toList == k.toList) = decide (to = k) := ba_beq to k
  have H := Lib.hid h
  clear h
  by_cases h0 : to.size = 0
  ·
    rw [decide_eq_false (by omega)] at he
    clear ht hte
    go_enter Try.func56, Try.ntmps56
    go_upto_region 2 with (((with_reducible refine (HF).mono ?_); rintro z w1 ⟨rfl, hb1⟩))
    have hb2 := (one_at w1 52 [.string yk, .string ⟨yb.toArray⟩, .int .i64 ys]).2
    have HB := Lib.hid (chain hb1 hb2)
    clear HF hb1 hb2
    go_wp2_with fail
    go_ret
    exact ⟨rfl, H.out.step HB.out, HB.out⟩
  ·
    rw [decide_eq_true (by omega)] at he
    obtain rfl : to = k := ht.resolve_left h0
    clear ht hte
    go_enter Try.func56, Try.ntmps56
    go_upto_region 2 with (((with_reducible refine (HF).mono ?_); rintro z w1 ⟨rfl, hb1⟩))
    have hb2 := (one_at w1 52 [.string yk, .string ⟨yb.toArray⟩, .int .i64 ys]).2
    have HB := Lib.hid (chain hb1 hb2)
    clear HF hb1 hb2
    go_wp2_with fail
    go_ret
    exact ⟨rfl, H.out.step HB.out, HB.out⟩
set_option maxRecDepth 100000 in
set_option maxHeartbeats 2000000 in
theorem rrename_go (k to : ByteArray) (w : World) (h : IsRf w g l lost (rl armed left)) (hl : 0 ≤ left ∧ left < 9223372036854775808) (hf : (findF l k).isSome = true) (hn : l.length ≤ 1000000) (ht : 1 ≤ to.size) (htk : to ≠ k) :
    Calls Try.prog 56 #[.pointer (some ⟨g, 0, none⟩), .string k, .string to] w fun x w' => RgR w w' g l armed (wrP lost armed left) (applyF ⟨to, (getF l k).b, none, 0, 0, (getF l k).s⟩ false (withoutF l k)) x := by
  have he := emptyS_iff to
  have hte : (to.toList == k.toList) = decide (to = k) := ba_beq to k
  rw [decide_eq_true ht] at he
  rw [decide_eq_false htk] at hte
  have HF := rFind_any k w h
  unfold foundV at HF
  rw [hf] at HF
  obtain ⟨how, hhow, hh1, HW⟩ := rwr_any w h hl
  obtain ⟨q, hq⟩ : ∃ q, wrP lost armed left = q := ⟨_, rfl⟩
  rw [hq] at hhow HW ⊢
  clear hq hh1
  obtain ⟨code, now, lost', left'⟩ := q
  simp only at hhow HW
  obtain ⟨y, hy⟩ : ∃ y, getF l k = y := ⟨_, rfl⟩
  rw [hy] at HF
  try rw [hy]
  have HY := Lib.hid hy
  clear hy
  obtain ⟨yk, yb, yA, yn, yc, ys⟩ := y
  simp only at HF
  try simp only
  have HW := Lib.hid HW
  have H := Lib.hid h
  clear h
  go_enter Try.func56, Try.ntmps56
  go_upto_region 2 with (((with_reducible refine (HF).mono ?_); rintro z w1 ⟨rfl, hb1⟩))
  obtain ⟨h5, hb2⟩ := one_at w1 52 [.string yk, .string ⟨yb.toArray⟩, .int .i64 ys]
  have hm2 := (Mod.refl (fun i _ => i = g) w).below (chain hb1 hb2)
  have h := (H.out.step hb1).step hb2
  have hgl := h.lt
  have hgw1 := (H.out.step hb1).lt
  clear HF hb1 hb2 H
  generalize World.alloc w1 _ = w2 at *
  generalize w1.heap.size = g5 at *
  have HW := HW.out w2 h
  obtain ⟨⟨y0, y1, y2⟩, yf⟩ := at3 h5
  rcases hhow with ⟨rfl, rfl⟩ | ⟨hpos, rfl⟩
  rotate_left
  ·
    have hd : decide (0 < how) = true := decide_eq_true hpos
    go_wp2_with (((with_reducible refine (HW).mono ?_); rintro z w3 ⟨rfl, h3, hG3⟩))
    go_ret
    exact ⟨rfl, hm2.grown hG3 (fun i o _ _ e => (Option.some.inj e).symm), by rw [if_neg (show ¬ (12 : Int) = 0 by decide)]; exact h3⟩
  ·
    go_upto_region 8 with (((with_reducible refine (HW).mono ?_); rintro z w3 ⟨rfl, h3, hG3⟩))
    replace h5 := h5.only hG3 (by omega)
    have hm3 := hm2.grown hG3 (fun i o _ _ e => (Option.some.inj e).symm)
    clear HW hG3 hm2 y0 y1 y2 yf h
    obtain ⟨⟨y0, y1, y2⟩, yf⟩ := at3 h5
    clear y0 y1 y2 yf
    have HWO := rwithout_any k w3 h3 hn
    have hwl : (withoutF l k).length ≤ 1000000 := Nat.le_trans (List.length_filter_le _ _) hn
    obtain ⟨q, hqe⟩ : ∃ q, withoutF l k = q := ⟨_, rfl⟩
    rw [hqe] at HWO hwl
    have HQE := Lib.hid hqe
    clear hqe
    go_upto_region 9 with (((with_reducible refine (HWO).mono ?_); rintro z w4 ⟨A4, c4, rfl, hown4, hb4⟩); (have h34 := h3.step hb4); (obtain ⟨Ad, cd, hd, hod⟩ := h34.ex); (obtain ⟨⟨z0, z1, z2⟩, zf0, zf1, zf2⟩ := at3 hd))
    obtain ⟨hat, hG⟩ := At.many [(0, .slice A4 q.length c4)] hd
    dsimp only [setMany, setL, List.set] at hat hG
    have hfin := IsRf.turn (l' := q) hd (own_lower (show World.ownsRow _ _ _ _ _ _ _ from hown4) (Nat.zero_le _)) hG hat
    have hm4 := (hm3.below hb4).grown hG (fun i o _ _ e => (Option.some.inj e).symm)
    replace h5 := (h5.step hb4).only hG (by omega)
    clear hat hG h34 hd hod hown4 hb4 z0 z1 z2 zf0 zf1 zf2 HWO
    generalize World.setCell _ _ _ = w5 at *
    obtain ⟨⟨y0, y1, y2⟩, yf⟩ := at3 h5
    have HP := rput_any ⟨to, yb, none, 0, 0, ys⟩ w5 hfin hwl
    simp only at HP
    go_wp2_with (((with_reducible refine calls_id ?_); refine HP.mono ?_; rintro z w6 ⟨rfl, h6, hm6⟩))
    go_ret
    exact ⟨rfl, hm4.trans hm6, by rw [if_pos rfl, HQE.out]; exact h6⟩
theorem rappend_empty (k b : ByteArray) (hk : k.size = 0) (w : World) : Calls Try.prog 47 #[.pointer (some ⟨g, 0, none⟩), .string k, .string b] w fun x w' => x = .returned (.int .i64 1) ∧ w = w' := by
  have he := emptyS_iff k
  rw [decide_eq_false (by omega)] at he
  go_enter Try.func47, Try.ntmps47
  go_wp2_with fail
  go_ret
  exact ⟨rfl, rfl⟩
set_option maxRecDepth 100000 in
set_option maxHeartbeats 2000000 in
theorem rappend_any (k : ByteArray) (bl : List UInt8) (hk : 1 ≤ k.size) (w : World) (h : IsRf w g l lost (rl armed left)) (hl : 0 ≤ left ∧ left < 9223372036854775808) (hn : l.length ≤ 1000000) (hsz : (getF l k).b.length + bl.length ≤ 1000000000) :
    Calls Try.prog 47 #[.pointer (some ⟨g, 0, none⟩), .string k, .string ⟨bl.toArray⟩] w fun x w' => x = .returned (.int .i64 (wrP lost armed left).code) ∧ Mod (fun i _ => i = g) w w' ∧ IsRf w' g (if lost then l else applyF ⟨k, (getF l k).b ++ bl, none, 0, 0, (getF l k).s⟩ false l) (wrP lost armed left).lost (rl armed (wrP lost armed left).left) := by
  have he := emptyS_iff k
  rw [decide_eq_true hk] at he
  obtain ⟨how, hhow, hh1, HW⟩ := rwr_any w h hl
  replace HW := HW w h
  obtain ⟨q, hq⟩ : ∃ q, wrP lost armed left = q := ⟨_, rfl⟩
  rw [hq] at hhow HW ⊢
  clear hq
  obtain ⟨code, now, lost', left'⟩ := q
  simp only at hhow HW ⊢
  obtain ⟨y, hy⟩ : ∃ y, getF l k = y := ⟨_, rfl⟩
  rw [hy] at hsz ⊢
  have HY := Lib.hid hy
  clear hy h
  obtain ⟨yk, yb, yA, yn, yc, ys⟩ := y
  simp only at hsz ⊢
  have hcat : (⟨yb.toArray⟩ ++ ⟨bl.toArray⟩ : ByteArray) = ⟨(yb ++ bl).toArray⟩ := cat_str _ _
  have hsm : ¬ 9223372036854775807 < yb.length + bl.length := by omega
  have hcode : (if 0 < how then (12 : Int) else 0) = code := by rcases hhow with ⟨rfl, rfl⟩ | ⟨h1, rfl⟩; rfl; rw [if_pos h1]
  cases lost with
  | true =>
    have h1 : how = 1 := hh1.2 rfl
    subst h1
    rw [if_pos (by decide)] at hcode
    subst hcode
    clear hhow hh1
    go_enter Try.func47, Try.ntmps47
    go_wp2_with (((with_reducible refine (HW).mono ?_); rintro z w1 ⟨rfl, h1, hG1⟩))
    go_ret
    exact ⟨rfl, gmod hG1, h1⟩
  | false =>
    have h1 : ¬ how = 1 := fun e => by have := hh1.1 e; cases this
    have hb1 : (how == 1) = false := beq_eq_false_iff_ne.mpr h1
    have hb2 : (how != 1) = true := bne_iff_ne.mpr h1
    clear hh1
    go_enter Try.func47, Try.ntmps47
    go_upto_region 4 with (((with_reducible refine (HW).mono ?_); rintro z w1 ⟨rfl, h1', hG1⟩))
    have HF := rFind_any k w1 h1'
    unfold foundV at HF
    rw [HY.out] at HF
    simp only at HF
    generalize (findF l k).isSome = fd at *
    have hm1 := gmod hG1
    clear HW hG1
    go_upto_region 6 with (((with_reducible refine (HF).mono ?_); rintro z w2 ⟨rfl, hb2'⟩))
    obtain ⟨h8, hb3⟩ := one_at w2 52 [.string yk, .string ⟨yb.toArray⟩, .int .i64 ys]
    have h3 := (h1'.step hb2').step hb3
    have hm3 := (hm1.below hb2').below hb3
    clear HF hb2' hb3 h1' hm1
    generalize World.alloc w2 _ = w3 at *
    generalize w2.heap.size = g8 at *
    obtain ⟨⟨y0, y1, y2⟩, yf⟩ := at3 h8
    have HP := rput_any ⟨k, yb ++ bl, none, 0, 0, ys⟩ w3 h3 hn
    simp only at HP
    rcases hhow with ⟨rfl, rfl⟩ | ⟨hpos, rfl⟩
    ·
      go_wp2_with (((with_reducible refine calls_id ?_); refine HP.mono ?_; rintro z w6 ⟨rfl, h6, hm6⟩))
      go_ret
      exact ⟨rfl, hm3.trans hm6, h6⟩
    ·
      have hdp : decide (0 < how) = true := decide_eq_true hpos
      go_wp2_with (((with_reducible refine calls_id ?_); refine HP.mono ?_; rintro z w6 ⟨rfl, h6, hm6⟩))
      go_ret
      exact ⟨rfl, hm3.trans hm6, h6⟩
end
end Go.Proofs.Ytmoijbknjadeeaa
