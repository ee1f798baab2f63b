
/- Chapter 7: Open: the program's. -/
import Derived.Test.YtmoijbknjadeeaaWal
namespace Go.Proofs.Ytmoijbknjadeeaa
set_option linter.unusedVariables false
set_option linter.unusedSimpArgs false
open Go.RowKit
theorem allR_le {b : List UInt8} {rs : List (List UInt8)} {a e : Nat} (h : AllR b rs a e) : a ≤ b.length := by
  induction h with
  | stop b e h he => exact Nat.zero_le _
  | step b p n rs a e h hr ih =>
    have h1 := next_le b
    rw [h] at h1
    rw [List.length_drop] at ih
    simp only at h1
    omega
def opO (d : PD) (nm : ByteArray) (at_ : Nat) : Out := mendO d nm ((d.rb nm).length : Nat) at_
def WOg (w w' : World) (gd bd N : Nat) (nm : ByteArray) (d : PD) (rc : Int) (rb : List UInt8) (x : Ending) : Prop :=
  (rc = 6 ∧ ∃ gl, x = .returned (.tuple #[.pointer (some ⟨gl, 0, none⟩), .slice none 0 0, .int .i64 0]) ∧ IsLg w' gl gd nm 0 false ∧ w.heap.size ≤ gl ∧ Below w.heap.size w w')
  ∨ (rc ≠ 6 ∧ rc ≠ 0 ∧ x = .returned (.tuple #[.pointer none, .slice none 0 0, .int .i64 rc]) ∧ Below w.heap.size w w')
  ∨ (rc = 0 ∧ ∃ rs at_ code, AllR rb rs at_ code ∧ Mod (fun i _ => i = gd ∨ i = bd) w w' ∧ IsD w' gd bd (N + 1) (d.out (mendO d nm (rb.length : Nat) at_)) ∧
      (((mendO d nm (rb.length : Nat) at_).code ≠ 0 ∧ x = .returned (.tuple #[.pointer none, .slice none 0 0, .int .i64 (mendO d nm (rb.length : Nat) at_).code])) ∨
       ((mendO d nm (rb.length : Nat) at_).code = 0 ∧ ∃ gl A c ys, rs = ys.map Bsl.l ∧ x = .returned (.tuple #[.pointer (some ⟨gl, 0, none⟩), .slice A ys.length c, .int .i64 0]) ∧ IsLg w' gl gd nm (at_ : Int) false ∧ w.heap.size ≤ gl ∧ RecO w' w.heap.size A ys.length c ys)))
def WO (w w' : World) (gd bd N : Nat) (nm : ByteArray) (d : PD) (x : Ending) : Prop := WOg w w' gd bd N nm d (d.rc nm) (d.rb nm) x
section
variable {gd bd N M K : Nat} {d : PD} {nm : ByteArray}
theorem wopen_empty (p : Option Addr) (hk : nm.size = 0) (w : World) : Calls Try.prog 31 #[.pointer p, .string nm] w fun x w' => x = .returned (.tuple #[.pointer none, .slice none 0 0, .int .i64 1]) ∧ w = w' := by
  have he := emptyS_iff nm
  rw [decide_eq_false (by omega)] at he
  go_enter Try.func31, Try.ntmps31
  go_wp2_with fail
  exact bodyPost_ret (v := .tuple #[.pointer none, .slice none 0 0, .int .i64 1]) (by simp [results, Try.results31, go_sem]) rfl ⟨rfl, rfl⟩
theorem wopen_nil (hk : 1 ≤ nm.size) (w : World) : Calls Try.prog 31 #[.pointer none, .string nm] w fun x w' => x = .returned (.tuple #[.pointer none, .slice none 0 0, .int .i64 2]) ∧ w = w' := by
  have he := emptyS_iff nm
  rw [decide_eq_true hk] at he
  go_enter Try.func31, Try.ntmps31
  go_wp2_with (((with_reducible refine ((dread_nil nm w)).mono ?_); rintro z v ⟨rfl, rfl⟩))
  exact bodyPost_ret (v := .tuple #[.pointer none, .slice none 0 0, .int .i64 2]) (by simp [results, Try.results31, go_sem]) rfl ⟨rfl, rfl⟩
set_option maxRecDepth 100000 in
set_option maxHeartbeats 2000000 in
theorem wopen_any (hk0 : 1 ≤ nm.size) (hk : nm.size ≤ maxLen) (w : World) (h : IsD w gd bd N d) (ho : d.Ok M K) (hM : M ≤ 1048576) (hN : N < 900000) :
    Calls Try.prog 31 #[.pointer (some ⟨gd, 0, none⟩), .string nm] w fun x w' => WO w w' gd bd N nm d x := by
  have he := emptyS_iff nm
  rw [decide_eq_true hk0] at he
  have HR := pd_rd nm hk w h ho (by omega)
  have hlen := ok_rb ho nm
  have HME := fun (v : World) (h : IsD v gd bd N d) (a b : Nat) => mend_any a b hk v h ho (by omega) (by omega)
  have H := Lib.hid h
  unfold WO
  obtain ⟨rc, hrc⟩ : ∃ rc, d.rc nm = rc := ⟨_, rfl⟩
  obtain ⟨rb, hrb⟩ : ∃ rb, d.rb nm = rb := ⟨_, rfl⟩
  rw [hrc, hrb] at HR ⊢
  rw [hrb] at hlen
  clear ho hrc hrb h
  go_enter Try.func31, Try.ntmps31
  go_upto_region 4 with (((with_reducible refine (HR).mono ?_); rintro z w1 ⟨A, n, c, rfl, hown, hb1⟩))
  obtain rfl : rb.length = n := hown.length
  have hrd := hown.rd
  have hd := H.out.step hb1
  have HB := Lib.hid hb1
  have hsz := hb1.size
  clear HR hown hb1
  by_cases h6 : rc = 6
  · subst h6
    obtain ⟨h5, hb5⟩ := one_at w1 101 [.pointer (some ⟨gd, 0, none⟩), .string nm, .int .i64 0, .bool false]
    have HB5 := Lib.hid (chain HB.out hb5)
    have H5 := Lib.hid h5
    clear hd hrd h5 hb5
    go_wp2_with fail
    exact bodyPost_ret (v := .tuple #[.pointer (some ⟨w1.heap.size, 0, none⟩), .slice none 0 0, .int .i64 0]) (by simp [results, Try.results31, go_sem]) rfl (by unfold WOg; exact .inl ⟨rfl, _, rfl, H5.out, hsz, HB5.out⟩)
  · have h6b : (rc == 6) = false := by simpa using h6
    by_cases h0 : rc = 0
    · subst h0
      have HF := fall_own A rb.length c rb w1 hrd (by omega)
      go_upto_region 9 with (((with_reducible refine (HF).mono ?_); rintro z w2 ⟨A2, c2, ys, at_, code, rfl, hall, hown, hb2, hel⟩))
      have HALL := Lib.hid hall
      have hd2 := hd.step hb2
      have HRS := Lib.hid (RecO.lower ⟨hown.1, hel⟩ hsz)
      have HB2 := Lib.hid (chain HB.out hb2)
      have HMD := HME w2 hd2 rb.length at_
      obtain ⟨o, ho⟩ : ∃ o, mendO d nm (rb.length : Nat) at_ = o := ⟨_, rfl⟩
      rw [ho] at HMD
      have HO := Lib.hid ho
      have HD2 := Lib.hid hd2
      clear hall hd2 hown hb2 hel HF HME hrd hd ho
      go_upto_region 10 with (((with_reducible refine (HMD).mono ?_); rintro z w3 ⟨rfl, hm3, hd3⟩))
      have HRS3 := Lib.hid (HRS.out.dk HD2.out hm3)
      have hm4 : Mod (fun i _ => i = gd ∨ i = bd) w w3 := ((Mod.refl _ w).below HB2.out).trans hm3
      have hsz3 := hm4.size
      by_cases hc : o.code = 0
      · obtain ⟨h5, hb5⟩ := one_at w3 101 [.pointer (some ⟨gd, 0, none⟩), .string nm, .int .i64 (at_ : Int), .bool false]
        have H5 := Lib.hid h5
        have HM5 := Lib.hid (hm4.below hb5)
        have HD5 := Lib.hid (hd3.step hb5)
        have HRS5 := Lib.hid (HRS3.out.step hb5)
        have hcb : (o.code == 0) = true := by simpa using hc
        clear hm3 hd3 hm4 h5 hb5 HMD
        go_wp2_with fail
        exact bodyPost_ret (v := .tuple #[.pointer (some ⟨w3.heap.size, 0, none⟩), .slice A2 ys.length c2, .int .i64 0]) (by simp [results, Try.results31, go_sem]) rfl (by unfold WOg; exact .inr (.inr ⟨rfl, _, at_, code, HALL.out, HM5.out, by rw [HO.out]; exact HD5.out, .inr ⟨by rw [HO.out]; exact hc, _, A2, c2, ys, rfl, rfl, H5.out, hsz3, HRS5.out⟩⟩))
      · have hcb : (o.code == 0) = false := by simpa using hc
        have HM3 := Lib.hid hm4
        have HD3 := Lib.hid hd3
        clear hm3 hd3 hm4 HMD
        go_wp2_with fail
        exact bodyPost_ret (v := .tuple #[.pointer none, .slice none 0 0, .int .i64 o.code]) (by simp [results, Try.results31, go_sem]) rfl (by unfold WOg; exact .inr (.inr ⟨rfl, _, at_, code, HALL.out, HM3.out, by rw [HO.out]; exact HD3.out, .inl ⟨by rw [HO.out]; exact hc, by rw [HO.out]⟩⟩))
    · have h0b : ¬ rc = 0 := h0
      clear hd hrd HME
      have H6 := Lib.hid h6
      have H0 := Lib.hid h0
      clear h6 h0
      go_wp2_with fail
      exact bodyPost_ret (v := .tuple #[.pointer none, .slice none 0 0, .int .i64 rc]) (by simp [results, Try.results31, go_sem]) rfl (by unfold WOg; exact .inr (.inl ⟨H6.out, H0.out, rfl, HB.out⟩))
end
end Go.Proofs.Ytmoijbknjadeeaa
