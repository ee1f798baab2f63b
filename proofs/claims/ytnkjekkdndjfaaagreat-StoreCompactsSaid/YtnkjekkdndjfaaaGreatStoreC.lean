
/- Chapter 11: Open. -/
import Derived.Test.YtnkjekkdndjfaaaGreatStoreB
namespace Go.Proofs.YtnkjekkdndjfaaaGreat
set_option linter.unusedVariables false
set_option linter.unusedSimpArgs false
open Go.RowKit
theorem allR_rec {b : List UInt8} {rs : List (List UInt8)} {a e : Nat} (h : AllR b rs a e) : (∀ p ∈ rs, p.length ≤ b.length) ∧ rs.length ≤ b.length := by
  induction h with
  | stop b e h he => exact ⟨(fun p hp => by cases hp), Nat.zero_le _⟩
  | step b p n rs a e h hr ih =>
    have h1 := next_le b
    have h2 := next_zero b (by rw [h])
    rw [h] at h1 h2
    rw [List.length_drop] at ih
    simp only at h1 h2
    refine ⟨fun q hq => ?_, by rw [List.length_cons]; omega⟩
    rcases List.mem_cons.1 hq with rfl | hq
    · omega
    · have := ih.1 q hq; omega
/-- a store: its blocks, and what it is as data -/
structure IsSto (w : World) (gs gd bd N gst bst Ns gl : Nat) (d : PD) (s : SL) (sz : Int) (ld : Bool) (ev since : Int) (dead : Bool) : Prop where
  blk : At w gs 107 [.pointer (some ⟨gd, 0, none⟩), .pointer (some ⟨gst, 0, none⟩), .pointer (some ⟨gl, 0, none⟩), .int .i64 ev, .int .i64 since, .bool dead]
  dk : IsD w gd bd N d
  st : IsSt w gst bst Ns s.rev s.l
  lg : IsLg w gl gd logN sz ld
  ne : bst ≠ bd
section
variable {w w' : World} {gs gd bd N gst bst Ns gl M K : Nat} {d : PD} {s : SL} {sz ev since : Int} {ld dead : Bool}
theorem IsSto.step (h : IsSto w gs gd bd N gst bst Ns gl d s sz ld ev since dead) (hb : Below w.heap.size w w') : IsSto w' gs gd bd N gst bst Ns gl d s sz ld ev since dead := ⟨At.below h.blk hb, h.dk.step hb, h.st.step hb, At.below h.lg hb, h.ne⟩
theorem IsSto.drew (h : IsSto w gs gd bd N gst bst Ns gl d s sz ld ev since dead) : IsSto w.drew gs gd bd N gst bst Ns gl d s sz ld ev since dead := ⟨At.drew h.blk, h.dk.drew, h.st.drew, At.drew h.lg, h.ne⟩
theorem sopen_nil (e : Int) (w : World) : Calls Tryz.prog 10 #[.pointer none, .int .i64 e] w fun x w' => x = .returned (.tuple #[.pointer none, .int .i64 2]) ∧ w = w' := by
  go_enter Tryz.func10, Tryz.ntmps10
  go_wp2_with (((with_reducible refine ((base_nil w)).mono ?_); rintro z v ⟨rfl, rfl⟩))
  exact bodyPost_ret (v := .tuple #[.pointer none, .int .i64 2]) (by simp [results, Tryz.results10, go_sem]) rfl ⟨rfl, rfl⟩
theorem sopen_bad (e : Int) (w : World) (h : IsD w gd bd N d) (ho : d.Ok M K) (hM : M ≤ 1000000) (hb : bsC d ≠ 0) :
    Calls Tryz.prog 10 #[.pointer (some ⟨gd, 0, none⟩), .int .i64 e] w fun x w' => x = .returned (.tuple #[.pointer none, .int .i64 (bsC d)]) ∧ Below w.heap.size w w' := by
  have HB := base_bad w h ho (by omega) hb
  generalize bsC d = c at *
  have b0 : (c == 0) = false := by simpa using hb
  have b1 : (c != 0) = true := by simpa using hb
  clear hb h ho
  go_enter Tryz.func10, Tryz.ntmps10
  go_wp2_with (((with_reducible refine (HB).mono ?_); rintro z v ⟨rfl, hb1⟩))
  exact bodyPost_ret (v := .tuple #[.pointer none, .int .i64 c]) (by simp [results, Tryz.results10, go_sem]) rfl ⟨rfl, hb1⟩
def SOK (w w' : World) (gd bd N M : Nat) (d : PD) (s : SL) (sz e : Int) (x : Ending) : Prop :=
  ∃ gs gst bst Ns gl, x = .returned (.tuple #[.pointer (some ⟨gs, 0, none⟩), .int .i64 0]) ∧ IsSto w' gs gd bd (N + 1) gst bst Ns gl d s sz false (max e 1) 0 false ∧ Ns ≤ M + M ∧ (w.heap.size ≤ gs ∧ w.heap.size ≤ gst ∧ w.heap.size ≤ bst ∧ w.heap.size ≤ gl) ∧ Mod (fun i _ => i = gd ∨ i = bd) w w'
set_option maxRecDepth 100000 in
set_option maxHeartbeats 2000000 in
theorem sopen_new (e : Int) (w : World) (h : IsD w gd bd N d) (ho : d.Ok M K) (hM : M ≤ 200000) (hN : N < 800000) (hb : bsC d = 0) (h6 : d.rc logN = 6) :
    Calls Tryz.prog 10 #[.pointer (some ⟨gd, 0, none⟩), .int .i64 e] w fun x w' => SOK w w' gd bd N M d (bsS d) 0 e x := by
  have HB := base_ok w h ho (by omega) hb
  have hlt := h.lt
  have H := Lib.hid h
  have HO := fun v (h : IsD v gd bd N d) => (wopen_any logN_lo logN_hi v h ho (by omega) (by omega)).mono (R' := fun x w' => ∃ gl, x = .returned (.tuple #[.pointer (some ⟨gl, 0, none⟩), .slice none 0 0, .int .i64 0]) ∧ IsLg w' gl gd logN 0 false ∧ v.heap.size ≤ gl ∧ Below v.heap.size v w') (by
    intro x w' hwo
    unfold WO WOg at hwo
    rcases hwo with hq | hq | hq
    · exact hq.2
    · exact absurd h6 hq.1
    · have := hq.1; omega)
  generalize bsS d = s0 at *
  obtain ⟨rv, li⟩ := s0
  simp only at HB
  clear h hb h6
  go_enter Tryz.func10, Tryz.ntmps10
  go_upto_region 4 with (((with_reducible refine (HB).mono ?_); rintro z w1 ⟨gst, bst, rfl, hst1, hgb, hbg, hb1⟩))
  have hd1 := H.out.step hb1
  have hne : bst ≠ bd := by omega
  have HO1 := HO w1 hd1
  have hm1 : Mod (fun i _ => i = gd ∨ i = bd) w w1 := (Mod.refl _ w).below hb1
  have hs1 := hb1.size
  clear HB HO hb1 H
  go_upto_region 5 with (((with_reducible refine (HO1).mono ?_); rintro z w2 ⟨gl, rfl, hl2, hgl, hb2⟩))
  have hst2 := hst1.step hb2
  have hd2 := hd1.step hb2
  have hm2 := hm1.below hb2
  have HRP := replay_any (ys := []) (base := 0) (A := none) (c := 0) w2 hst2 RecO.nil (by simp; omega) (by simp)
  unfold RPL at HRP
  simp only [List.map_nil, rplS, List.length_nil] at HRP
  clear hst1 hd1 hm1 hb2 HO1
  have HST2 := Lib.hid hst2
  have HL2 := Lib.hid hl2
  have HD2 := Lib.hid hd2
  have HM2 := Lib.hid hm2
  clear hst2 hl2 hd2 hm2
  go_upto_region 10 with (((with_reducible refine (HRP).mono ?_); rintro z w5 ⟨rfl, ⟨Ns, hNs, hst5⟩, hm5'⟩))
  have hd5 := (HD2.out.st HST2.out hm5' hne).more (Nat.le_succ N)
  have hl5 : IsLg w5 gl gd logN 0 false := At.st HL2.out HST2.out hm5' (by decide)
  have hs2 := HM2.out.size
  have hm5 : Mod (fun i _ => i = gd ∨ i = bd) w w5 := by
    refine HM2.out.step hm5' (N := fun i _ => i = gst ∨ i = bst) (fun i o hi _ e => ?_)
    rcases e with e | e <;> omega
  clear HRP HST2 HL2 HD2 HM2 hm5'
  obtain ⟨mx, hmx⟩ : ∃ mx, max e 1 = mx := ⟨_, rfl⟩
  obtain ⟨h8, hb8⟩ := one_at w5 107 [.pointer (some ⟨gd, 0, none⟩), .pointer (some ⟨gst, 0, none⟩), .pointer (some ⟨gl, 0, none⟩), .int .i64 mx, .int .i64 0, .bool false]
  have HS := Lib.hid (show IsSto _ w5.heap.size gd bd (N + 1) gst bst _ gl _ (⟨rv, li⟩ : SL) _ false mx 0 false from ⟨h8, hd5.step hb8, hst5.step hb8, At.below hl5 hb8, hne⟩)
  have HM := Lib.hid (hm5.below hb8)
  have hsz5 := hm5.size
  have HMX := Lib.hid hmx
  clear h8 hb8 hd5 hst5 hl5 hm5
  go_wp2_with fail
  exact bodyPost_ret (v := .tuple #[.pointer (some ⟨w5.heap.size, 0, none⟩), .int .i64 0]) (by simp [results, Tryz.results10, go_sem]) rfl ⟨w5.heap.size, gst, bst, _, gl, rfl, by rw [HMX.out]; exact HS.out, by omega, by omega, HM.out⟩
set_option maxRecDepth 100000 in
set_option maxHeartbeats 2000000 in
theorem sopen_log {rs : List (List UInt8)} {at_ code : Nat} {s' : SL} (e : Int) (w : World) (h : IsD w gd bd N d) (ho : d.Ok M K) (hM : M ≤ 200000) (hN : N < 800000) (hb : bsC d = 0) (h0 : d.rc logN = 0) (hall : AllR (d.rb logN) rs at_ code) (hmc : (mendO d logN ((d.rb logN).length : Nat) at_).code = 0) (hrp : rplS (bsS d) rs = (0, s')) :
    Calls Tryz.prog 10 #[.pointer (some ⟨gd, 0, none⟩), .int .i64 e] w fun x w' => SOK w w' gd bd N M (d.out (mendO d logN ((d.rb logN).length : Nat) at_)) s' (at_ : Int) e x := by
  have HB := base_ok w h ho (by omega) hb
  have hlt := h.lt
  have hrb := ok_rb ho logN
  have hat := allR_rec hall
  have H := Lib.hid h
  generalize bsS d = s0 at *
  obtain ⟨rv, li⟩ := s0
  have HO := fun v (h : IsD v gd bd N d) => (wopen_any logN_lo logN_hi v h ho (by omega) (by omega)).mono (R' := fun x w' => ∃ gl A c ys, x = .returned (.tuple #[.pointer (some ⟨gl, 0, none⟩), .slice A ys.length c, .int .i64 0]) ∧ rs = ys.map Bsl.l ∧ IsLg w' gl gd logN (at_ : Int) false ∧ v.heap.size ≤ gl ∧ RecO w' v.heap.size A ys.length c ys ∧ Mod (fun i _ => i = gd ∨ i = bd) v w' ∧ IsD w' gd bd (N + 1) (d.out (mendO d logN ((d.rb logN).length : Nat) at_))) (by
    intro x w' hwo
    unfold WO WOg at hwo
    rcases hwo with hq | hq | ⟨_, rs', at', code', ha', hm, hd, hq⟩
    · have := hq.1; omega
    · exact absurd h0 hq.2.1
    · obtain ⟨rfl, rfl, rfl⟩ := hall.det ha'
      rcases hq with ⟨hq, _⟩ | ⟨_, gl, A, c, ys, e1, rfl, e3, e4, e5⟩
      · exact absurd hmc hq
      · exact ⟨gl, A, c, ys, rfl, e1, e3, e4, e5, hm, hd⟩)
  obtain ⟨d', hd'⟩ : ∃ d', d.out (mendO d logN ((d.rb logN).length : Nat) at_) = d' := ⟨_, rfl⟩
  rw [hd'] at HO
  try rw [hd']
  simp only at HB
  clear h hb h0 hall hmc hd'
  go_enter Tryz.func10, Tryz.ntmps10
  go_upto_region 4 with (((with_reducible refine (HB).mono ?_); rintro z w1 ⟨gst, bst, rfl, hst1, hgb, hbg, hb1⟩))
  have hd1 := H.out.step hb1
  have hne : bst ≠ bd := by omega
  have HO1 := HO w1 hd1
  have hm1 : Mod (fun i _ => i = gd ∨ i = bd) w w1 := (Mod.refl _ w).below hb1
  have hs1 := hb1.size
  clear HB HO hb1 H
  go_upto_region 5 with (((with_reducible refine (HO1).mono ?_); rintro z w2 ⟨gl, A, c, ys, rfl, hrs, hl2, hgl, hrec, hmw, hd2⟩))
  have hst2 := hst1.dk hd1 hmw hne
  have hm2 := hm1.trans hmw
  have hyl : ys.length ≤ M := by
    have := hat.2
    rw [hrs, List.length_map] at this
    omega
  have hyn : ∀ y ∈ ys, y.n ≤ 2000000 := fun y hy => by
    have h1 := (hrec.2 y hy).rd.length
    have h2 := hat.1 y.l (by rw [hrs]; exact List.mem_map.2 ⟨y, hy, rfl⟩)
    omega
  have HRP := replay_any w2 hst2 hrec (by omega) hyn
  unfold RPL at HRP
  rw [← hrs, hrp] at HRP
  simp only at HRP
  have hs2' := hmw.size
  clear hst1 hd1 hm1 hmw HO1 hrec hrs hyn hat hrp
  have HST2 := Lib.hid hst2
  have HL2 := Lib.hid hl2
  have HD2 := Lib.hid hd2
  have HM2 := Lib.hid hm2
  clear hst2 hl2 hd2 hm2
  go_upto_region 10 with (((with_reducible refine (HRP).mono ?_); rintro z w5 ⟨rfl, ⟨Ns, hNs, hst5⟩, hm5'⟩))
  have hd5 := HD2.out.st HST2.out hm5' hne
  have hl5 : IsLg w5 gl gd logN (at_ : Int) false := At.st HL2.out HST2.out hm5' (by decide)
  have hs2 := HM2.out.size
  have hm5 : Mod (fun i _ => i = gd ∨ i = bd) w w5 := by
    refine HM2.out.step hm5' (N := fun i _ => i = gst ∨ i = bst) (fun i o hi _ e => ?_)
    rcases e with e | e <;> omega
  clear HRP HST2 HL2 HD2 HM2 hm5'
  obtain ⟨mx, hmx⟩ : ∃ mx, max e 1 = mx := ⟨_, rfl⟩
  obtain ⟨h8, hb8⟩ := one_at w5 107 [.pointer (some ⟨gd, 0, none⟩), .pointer (some ⟨gst, 0, none⟩), .pointer (some ⟨gl, 0, none⟩), .int .i64 mx, .int .i64 0, .bool false]
  have HS := Lib.hid (show IsSto _ w5.heap.size gd bd (N + 1) gst bst _ gl _ s' _ false mx 0 false from ⟨h8, hd5.step hb8, hst5.step hb8, At.below hl5 hb8, hne⟩)
  have HM := Lib.hid (hm5.below hb8)
  have hsz5 := hm5.size
  have HMX := Lib.hid hmx
  clear h8 hb8 hd5 hst5 hl5 hm5
  go_wp2_with fail
  exact bodyPost_ret (v := .tuple #[.pointer (some ⟨w5.heap.size, 0, none⟩), .int .i64 0]) (by simp [results, Tryz.results10, go_sem]) rfl ⟨w5.heap.size, gst, bst, _, gl, rfl, by rw [HMX.out]; exact HS.out, by omega, by omega, HM.out⟩
set_option maxRecDepth 100000 in
set_option maxHeartbeats 2000000 in
theorem sopen_stop {rs : List (List UInt8)} {at_ code : Nat} {s' : SL} (e : Int) (w : World) (h : IsD w gd bd N d) (ho : d.Ok M K) (hM : M ≤ 200000) (hN : N < 800000) (hb : bsC d = 0) (h0 : d.rc logN = 0) (hall : AllR (d.rb logN) rs at_ code) (hmc : (mendO d logN ((d.rb logN).length : Nat) at_).code = 0) (hrp : rplS (bsS d) rs = (3, s')) :
    Calls Tryz.prog 10 #[.pointer (some ⟨gd, 0, none⟩), .int .i64 e] w fun x w' => x = .returned (.tuple #[.pointer none, .int .i64 3]) ∧ IsD w' gd bd (N + 1) (d.out (mendO d logN ((d.rb logN).length : Nat) at_)) ∧ Mod (fun i _ => i = gd ∨ i = bd) w w' := by
  have HB := base_ok w h ho (by omega) hb
  have hlt := h.lt
  have hrb := ok_rb ho logN
  have hat := allR_rec hall
  have H := Lib.hid h
  generalize bsS d = s0 at *
  obtain ⟨rv, li⟩ := s0
  have HO := fun v (h : IsD v gd bd N d) => (wopen_any logN_lo logN_hi v h ho (by omega) (by omega)).mono (R' := fun x w' => ∃ gl A c ys, x = .returned (.tuple #[.pointer (some ⟨gl, 0, none⟩), .slice A ys.length c, .int .i64 0]) ∧ rs = ys.map Bsl.l ∧ IsLg w' gl gd logN (at_ : Int) false ∧ v.heap.size ≤ gl ∧ RecO w' v.heap.size A ys.length c ys ∧ Mod (fun i _ => i = gd ∨ i = bd) v w' ∧ IsD w' gd bd (N + 1) (d.out (mendO d logN ((d.rb logN).length : Nat) at_))) (by
    intro x w' hwo
    unfold WO WOg at hwo
    rcases hwo with hq | hq | ⟨_, rs', at', code', ha', hm, hd, hq⟩
    · have := hq.1; omega
    · exact absurd h0 hq.2.1
    · obtain ⟨rfl, rfl, rfl⟩ := hall.det ha'
      rcases hq with ⟨hq, _⟩ | ⟨_, gl, A, c, ys, e1, rfl, e3, e4, e5⟩
      · exact absurd hmc hq
      · exact ⟨gl, A, c, ys, rfl, e1, e3, e4, e5, hm, hd⟩)
  obtain ⟨d', hd'⟩ : ∃ d', d.out (mendO d logN ((d.rb logN).length : Nat) at_) = d' := ⟨_, rfl⟩
  rw [hd'] at HO
  try rw [hd']
  simp only at HB
  clear h hb h0 hall hmc hd'
  go_enter Tryz.func10, Tryz.ntmps10
  go_upto_region 4 with (((with_reducible refine (HB).mono ?_); rintro z w1 ⟨gst, bst, rfl, hst1, hgb, hbg, hb1⟩))
  have hd1 := H.out.step hb1
  have hne : bst ≠ bd := by omega
  have HO1 := HO w1 hd1
  have hm1 : Mod (fun i _ => i = gd ∨ i = bd) w w1 := (Mod.refl _ w).below hb1
  have hs1 := hb1.size
  clear HB HO hb1 H
  go_upto_region 5 with (((with_reducible refine (HO1).mono ?_); rintro z w2 ⟨gl, A, c, ys, rfl, hrs, hl2, hgl, hrec, hmw, hd2⟩))
  have hst2 := hst1.dk hd1 hmw hne
  have hm2 := hm1.trans hmw
  have hyl : ys.length ≤ M := by
    have := hat.2
    rw [hrs, List.length_map] at this
    omega
  have hyn : ∀ y ∈ ys, y.n ≤ 2000000 := fun y hy => by
    have h1 := (hrec.2 y hy).rd.length
    have h2 := hat.1 y.l (by rw [hrs]; exact List.mem_map.2 ⟨y, hy, rfl⟩)
    omega
  have HRP := replay_any w2 hst2 hrec (by omega) hyn
  unfold RPL at HRP
  rw [← hrs, hrp] at HRP
  simp only at HRP
  have hs2' := hmw.size
  clear hst1 hd1 hm1 hmw HO1 hrec hrs hyn hat hrp
  have HST2 := Lib.hid hst2
  have HL2 := Lib.hid hl2
  have HD2 := Lib.hid hd2
  have HM2 := Lib.hid hm2
  clear hst2 hl2 hd2 hm2
  go_upto_region 9 with (((with_reducible refine (HRP).mono ?_); rintro z w5 ⟨rfl, ⟨Ns, hNs, hst5⟩, hm5'⟩))
  have hd5 := HD2.out.st HST2.out hm5' hne
  have hm5 : Mod (fun i _ => i = gd ∨ i = bd) w w5 := by
    refine HM2.out.step hm5' (N := fun i _ => i = gst ∨ i = bst) (fun i o hi _ e => ?_)
    rcases e with e | e <;> omega
  have HD5 := Lib.hid hd5
  have HM5 := Lib.hid hm5
  clear HRP HST2 HL2 HD2 HM2 hm5' hd5 hm5
  go_wp2_with fail
  exact bodyPost_ret (v := .tuple #[.pointer none, .int .i64 3]) (by simp [results, Tryz.results10, go_sem]) rfl ⟨rfl, HD5.out, HM5.out⟩
end
end Go.Proofs.YtnkjekkdndjfaaaGreat
