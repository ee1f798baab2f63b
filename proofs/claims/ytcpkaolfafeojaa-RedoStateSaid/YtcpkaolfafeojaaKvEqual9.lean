
/- Chapter 9: slices.Equal of the program's items; kv.Same. -/
import Derived.Test.YtcpkaolfafeojaaKvItems9
import Derived.Test.YtcpkaolfafeojaaKvNilWalk
namespace Go.Proofs.Ytcpkaolfafeojaa
set_option linter.unusedVariables false
set_option linter.unusedSimpArgs false
open Go.RowKit
set_option maxRecDepth 100000 in
set_option maxHeartbeats 4000000 in
theorem sequal_any (A A2 : Option Addr) (n c n2 c2 : Nat) (l m : List It) (w : World) (hr : RdI w w.heap.size A n c l) (hr2 : RdI w w.heap.size A2 n2 c2 m) :
    Calls Try.prog 77 #[.slice A n c, .slice A2 n2 c2] w fun r w' => r = .returned (.bool (decide (l = m))) ∧ Below w.heap.size w w' := by
  have hl := RdI.len hr
  have hl2 := RdI.len hr2
  have hmax := hr.max
  have hle := hr.le
  have hmax2 := hr2.max
  have hle2 := hr2.le
  unfold maxLen at hmax hmax2
  subst hl
  subst hl2
  have HR := Lib.hid hr
  have HR2 := Lib.hid hr2
  clear hr hr2
  by_cases hlen : l.length = m.length
  rotate_left
  · have hd : decide (l = m) = false := decide_eq_false fun e => hlen (by rw [e])
    rw [hd]
    have hli : ¬ (l.length : Int) = (m.length : Int) := by omega
    have hlb : ((l.length : Int) == (m.length : Int)) = false := beq_eq_false_iff_ne.mpr hli
    go_enter Try.func77, Try.ntmps77
    go_wp2_with fail
    go_ret
    exact ⟨rfl, Below.refl _ _⟩
  obtain ⟨q, hq⟩ : ∃ q, l.length = q := ⟨_, rfl⟩
  have hq2 : m.length = q := by omega
  have HQ := Lib.hid hq
  have HQ2 := Lib.hid hq2
  rw [hq, hq2]
  clear hq hq2 hlen
  go_enter Try.func77, Try.ntmps77
  go_wp2_with fail
  go_loopw [13] (fun i wr => ∃ k : Nat, i = .int .i64 (k : Int) ∧ k ≤ q ∧ l.take k = m.take k ∧ Below w.heap.size w wr) (fun i _ => q - (intOf i).toNat)
  case atStart => exact ⟨0, rfl, Nat.zero_le _, rfl, Below.refl _ _⟩
  case round =>
    obtain ⟨k, rfl, hk, htk, hb⟩ := hrel
    have hsz := hb.size
    have HTK := Lib.hid htk
    clear htk
    by_cases hlt : k < q
    · have h1 : k < l.length := by rw [HQ.out]; exact hlt
      have h2 : k < m.length := by rw [HQ2.out]; exact hlt
      obtain ⟨gs, off, e, hg, he⟩ := HR.out.elem It.row_length (by omega) (k := k) h1
      subst e
      obtain ⟨gs2, off2, e2, hg2, he2⟩ := HR2.out.elem It.row_length (by omega) (k := k) h2
      subst e2
      have hbc := bcell (Below.mono (B := w.heap.size) hb (Nat.le_refl _))
      have f0 := (hbc.1 _ _ hg2).trans (he2 0 _ rfl)
      have f1 := (hbc.1 _ _ hg2).trans (he2 1 _ rfl)
      have f2 := (hbc.1 _ _ hg2).trans (he2 2 _ rfl)
      have e0 := (hbc.1 _ _ hg).trans (he 0 _ rfl)
      have e1 := (hbc.1 _ _ hg).trans (he 1 _ rfl)
      have e2 := (hbc.1 _ _ hg).trans (he 2 _ rfl)
      have HNE := Lib.hid (take_ne h1 h2)
      have HEQ := Lib.hid (show l[k] = m[k] → l.take (k + 1) = m.take (k + 1) from fun h => by rw [List.take_succ_eq_append_getElem h1, List.take_succ_eq_append_getElem h2, HTK.out, h])
      rw [Nat.add_zero] at f0 e0
      clear hbc he he2
      generalize l[k] = y at *
      generalize m[k] = z at *
      obtain ⟨zk, zv, zr⟩ := z
      simp only at f0 f1 f2
      have HHB := Lib.hid hb
      clear hb
      go_upto_region 6 with fail
      by_cases hyz : y = ⟨zk, zv, zr⟩
      · have hen := HEQ.out hyz
        subst hyz
        have HEN := Lib.hid hen
        clear hen
        simp only at e0 e1 e2
        go_quiet (fail)
        clear f0 f1 f2 e0 e1 e2
        go_wp2_with fail
        go_roundw
        case rel => exact ⟨k + 1, by go_num, by omega, HEN.out, below_drewN HHB.out _⟩
        case measure => simp [intOf]; omega
      · have HD := Lib.hid (HNE.out hyz)
        have hcs := it_ne hyz
        obtain ⟨yk, yv, yr⟩ := y
        simp only at hcs e0 e1 e2
        clear hyz
        rcases hcs with h | ⟨h, h'⟩ | ⟨h, h', h''⟩
        ·
          have hne : ¬ yk.toList = zk.toList := fun e => h (ba_ext e)
          clear h
          go_quiet (fail)
          clear f0 f1 f2 e0 e1 e2
          go_wp2_with fail
          go_ret
          exact ⟨by rw [HD.out]; rfl, below_drewN HHB.out _⟩
        ·
          subst h
          have hne : ¬ yv.toList = zv.toList := fun e => h' (ba_ext e)
          clear h'
          go_quiet (fail)
          clear f0 f1 f2 e0 e1 e2
          go_wp2_with fail
          go_ret
          exact ⟨by rw [HD.out]; rfl, below_drewN HHB.out _⟩
        ·
          subst h
          subst h'
          go_quiet (fail)
          clear f0 f1 f2 e0 e1 e2
          go_wp2_with fail
          go_ret
          exact ⟨by rw [HD.out]; rfl, below_drewN HHB.out _⟩
    · obtain rfl : k = q := by omega
      have hd : decide (l = m) = true := by
        refine decide_eq_true ?_
        have := HTK.out
        rw [List.take_of_length_le (by rw [HQ.out]; omega), List.take_of_length_le (by rw [HQ2.out]; omega)] at this
        exact this
      have HD := Lib.hid hd
      have HHB := Lib.hid hb
      clear hd hb
      go_wp2_with fail
      go_ret
      exact ⟨by rw [HD.out]; rfl, HHB.out⟩
set_option maxRecDepth 100000 in
set_option maxHeartbeats 4000000 in
theorem ksame_any {g b N g2 b2 N2 : Nat} {rev rev2 : Int} {l l2 : List It} (w : World) (hst : IsSt w g b N rev l) (hst2 : IsSt w g2 b2 N2 rev2 l2) (hN : N ≤ 1000000) (hN2 : N2 ≤ 1000000) (hk : ∀ x ∈ l, x.k.size ≤ 1000) (hk2 : ∀ x ∈ l2, x.k.size ≤ 1000) :
    Calls Try.prog 51 #[.pointer (some ⟨g, 0, none⟩), .pointer (some ⟨g2, 0, none⟩)] w fun r w' => r = .returned (.bool (decide (rev = rev2) && decide (l = l2))) ∧ Below w.heap.size w w' := by
  have HR1 := Lib.hid (rev_any w hst)
  have HR2 := Lib.hid (rev_any w hst2)
  have HA1 := Lib.hid (all_any w hst hN hk)
  have HA2 := Lib.hid (fun w3 (h : Below w.heap.size w w3) => all_any w3 (hst2.step h) hN2 hk2)
  have HE := Lib.hid (fun w3 A3 n3 c3 (h : OwnI w3 w.heap.size A3 n3 c3 l) w4 A4 n4 c4 (hb : Below w3.heap.size w3 w4) (h4 : OwnI w4 w3.heap.size A4 n4 c4 l2) => sequal_any A3 A4 n3 c3 n4 c4 l l2 w4 (OwnI.rd (OwnI.step h hb)) (OwnI.rd h4))
  clear hst hst2 hk hk2
  go_enter Try.func51, Try.ntmps51
  by_cases hrr : rev = rev2
  · subst hrr
    rw [decide_eq_true rfl, Bool.true_and]
    go_wp2_with (first
      | (((with_reducible refine (HR1.out).mono ?_); rintro z w2 ⟨rfl, rfl⟩))
      | (((with_reducible refine (HR2.out).mono ?_); rintro z w2 ⟨rfl, rfl⟩))
      | (((with_reducible refine (HA1.out).mono ?_); rintro z w3 ⟨A3, n3, c3, rfl, hown3, hb3⟩))
      | (((with_reducible refine ((HA2.out w3 hb3)).mono ?_); rintro z w4 ⟨A4, n4, c4, rfl, hown4, hb4⟩))
      | (((with_reducible refine ((HE.out w3 A3 n3 c3 hown3 w4 A4 n4 c4 hb4 hown4)).mono ?_); rintro z w5 ⟨rfl, hb5⟩)))
    go_ret
    exact ⟨rfl, chain (chain hb3 hb4) hb5⟩
  · rw [decide_eq_false hrr, Bool.false_and]
    have hrb : (rev == rev2) = false := beq_eq_false_iff_ne.mpr hrr
    go_wp2_with (first
      | (((with_reducible refine (HR1.out).mono ?_); rintro z w2 ⟨rfl, rfl⟩))
      | (((with_reducible refine (HR2.out).mono ?_); rintro z w2 ⟨rfl, rfl⟩)))
    go_ret
    exact ⟨rfl, Below.refl _ _⟩
set_option maxRecDepth 100000 in
set_option maxHeartbeats 4000000 in
theorem ksame_nil {g b N : Nat} (w : World) (hst : IsSt w g b N 0 []) (hN : N ≤ 1000000) :
    Calls Try.prog 51 #[.pointer none, .pointer (some ⟨g, 0, none⟩)] w fun r w' => r = .returned (.bool true) ∧ Below w.heap.size w w' := by
  have HR2 := Lib.hid (rev_any w hst)
  have HR1 := Lib.hid (rev_nil w)
  have HA1 := Lib.hid (all_nil w)
  have HA2 := Lib.hid (all_any w hst hN (by intro x hx; cases hx))
  have HE := Lib.hid (fun w4 A4 n4 c4 (h4 : OwnI w4 w.heap.size A4 n4 c4 []) => sequal_any none A4 0 0 n4 c4 [] [] w4 (OwnI.rd (OwnI.nil (B := 0))) (OwnI.rd h4))
  clear hst
  go_enter Try.func51, Try.ntmps51
  go_wp2_with (first
    | (((with_reducible refine (HR1.out).mono ?_); rintro z w2 ⟨rfl, rfl⟩))
    | (((with_reducible refine (HR2.out).mono ?_); rintro z w2 ⟨rfl, rfl⟩))
    | (((with_reducible refine (HA1.out).mono ?_); rintro z w3 ⟨rfl, rfl⟩))
    | (((with_reducible refine (HA2.out).mono ?_); rintro z w4 ⟨A4, n4, c4, rfl, hown4, hb4⟩))
    | (((with_reducible refine ((HE.out w4 A4 n4 c4 hown4)).mono ?_); rintro z w5 ⟨rfl, hb5⟩)))
  go_ret
  exact ⟨rfl, chain hb4 hb5⟩
end Go.Proofs.Ytcpkaolfafeojaa
