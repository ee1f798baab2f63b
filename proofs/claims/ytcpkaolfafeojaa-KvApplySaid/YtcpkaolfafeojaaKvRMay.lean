
/- Chapter 9: the document's May. -/
import Derived.Test.YtcpkaolfafeojaaKvRPlan2
import Derived.Test.YtcpkaolfafeojaaKvInv
namespace Go.Proofs.Ytcpkaolfafeojaa
set_option linter.unusedVariables false
set_option linter.unusedSimpArgs false
open Go.RowKit
set_option maxRecDepth 100000 in
set_option maxHeartbeats 4000000 in
theorem rmay_any (A : Option Addr) (n c : Nat) (l : List It) (rev : Int) (k v : ByteArray) (er : Int) (eg : Bool) (w : World) (hr : RdI w w.heap.size A n c l) (hlo : 0 ≤ rev) (hhi : rev ≤ 9223372036854775807) :
    Calls Try.prog 54 #[.agg #[.int .i64 rev, .slice A n c], .agg #[.string k, .string v, .int .i64 er, .bool eg]] w fun x w' => x = .returned (.bool (apOk rev l ⟨k, v, er, eg⟩)) ∧ Below w.heap.size w w' := by
  obtain ⟨ap, hap⟩ : ∃ ap, apOk rev l ⟨k, v, er, eg⟩ = ap := ⟨_, rfl⟩
  rw [hap]
  have HAP := Lib.hid hap
  clear hap
  obtain ⟨h0, h1, hb⟩ := two_at w 81 [.int .i64 rev, .slice A n c] 54 [.string k, .string v, .int .i64 er, .bool eg]
  have HR := Lib.hid (hr.step' hb)
  clear hr
  obtain ⟨y, hy⟩ : ∃ y, getI l k = y := ⟨_, rfl⟩
  obtain ⟨yo, hyo⟩ : ∃ yo, (findI l k).isSome = yo := ⟨_, rfl⟩
  have hrf := fun w hr => rfind_any A n c l rev k w hr
  rw [hy, hyo] at hrf
  obtain ⟨yk, yv, yr⟩ := y
  unfold It.val at hrf
  simp only at hrf
  have HRF := Lib.hid hrf
  have hkey := fun w => rkey_any k w
  clear hrf
  go_enter Try.func54, Try.ntmps54
  go_upto_region 1 with fail
  generalize World.alloc (World.alloc w _) _ = w1 at *
  obtain ⟨⟨s0, s1⟩, sf⟩ := at2 h0
  obtain ⟨⟨x0, x1, x2, x3⟩, xf⟩ := at4 h1
  go_upto_region 2 with (((with_reducible refine calls_id ?_); refine (HRF.out w1 HR.out).mono ?_; rintro z w2 ⟨rfl, hb2⟩))
  obtain ⟨hy7, hb3⟩ := one_at w2 108 [.string yk, .string yv, .int .i64 yr]
  have HB := Lib.hid (chain (chain hb hb2) hb3)
  replace h0 := (h0.step hb2).step hb3
  replace h1 := (h1.step hb2).step hb3
  clear hb hb2 hb3 s0 s1 sf x0 x1 x2 x3 xf HRF hy7
  generalize World.alloc w2 _ = w3 at *
  generalize w2.heap.size = g7 at *
  obtain ⟨⟨s0, s1⟩, sf⟩ := at2 h0
  obtain ⟨⟨x0, x1, x2, x3⟩, xf⟩ := at4 h1
  clear h0 h1
  have hem := empty_iff v
  have HYO := Lib.hid hyo
  have hinc : rev = 9223372036854775807 ∨ inc rev = rev + 1 := by
    by_cases h : rev = 9223372036854775807
    · exact .inl h
    · exact .inr (inc_small hlo (by omega))
  clear hyo hy
  cases hq : keyB k with
  | false =>
    rw [hq] at hkey
    have HKEY := Lib.hid hkey
    clear hkey
    have HIN := Lib.hid hq
    have hac : ap = false := by rw [← HAP.out]; simp [apOk, HYO.out, HIN.out, hq]
    subst hac
    go_wp2_with (((with_reducible refine calls_id ?_); refine (HKEY.out _).mono ?_; rintro z w9 ⟨rfl, rfl⟩))
    go_ret
    exact ⟨rfl, HB.out⟩
  | true =>
    rw [hq] at hkey
    have HKEY := Lib.hid hkey
    clear hkey
    by_cases hv : v.size ≤ 65536
    rotate_left
    ·
      have hv2 : 65536 < v.size := by omega
      have HIN := Lib.hid hv
      have hac : ap = false := by rw [← HAP.out]; simp [apOk, HYO.out, HIN.out, hq, hv]
      subst hac
      go_wp2_with (((with_reducible refine calls_id ?_); refine (HKEY.out _).mono ?_; rintro z w9 ⟨rfl, rfl⟩))
      go_ret
      exact ⟨rfl, HB.out⟩
    by_cases hm : rev = 9223372036854775807
    ·
      have hm2 : 9223372036854775806 < rev := by omega
      have HIN := Lib.hid hm
      clear hinc hm
      have hac : ap = false := by rw [← HAP.out]; simp [apOk, HYO.out, HIN.out, hq, hv]
      subst hac
      go_wp2_with (((with_reducible refine calls_id ?_); refine (HKEY.out _).mono ?_; rintro z w9 ⟨rfl, rfl⟩))
      go_ret
      exact ⟨rfl, HB.out⟩
    have hm2 : ¬ 9223372036854775806 < rev := by omega
    have HIN := Lib.hid (hinc.resolve_left hm)
    clear hinc
    have hwr : IntKind.i64.wrap (rev + 1) = rev + 1 := IntWalk.i64_in _ (by omega)
    by_cases he : er = rev + 1
    rotate_left
    ·
      have heb : (er == rev + 1) = false := beq_eq_false_iff_ne.mpr he
      have hen : (er != rev + 1) = true := bne_iff_ne.mpr he
      have hac : ap = false := by rw [← HAP.out]; simp [apOk, HYO.out, HIN.out, hq, hv, he]
      subst hac
      go_wp2_with (((with_reducible refine calls_id ?_); refine (HKEY.out _).mono ?_; rintro z w9 ⟨rfl, rfl⟩))
      go_ret
      exact ⟨rfl, HB.out⟩
    subst he
    have hm3 : rev < 9223372036854775807 := by omega
    cases eg with
    | false =>
      have hac : ap = true := by rw [← HAP.out]; simp [apOk, HYO.out, HIN.out, hq, hv, hm]
      subst hac
      go_wp2_with (((with_reducible refine calls_id ?_); refine (HKEY.out _).mono ?_; rintro z w9 ⟨rfl, rfl⟩))
      go_ret
      exact ⟨rfl, HB.out⟩
    | true =>
      by_cases hvv : 1 ≤ v.size
      · rw [decide_eq_true hvv] at hem
        have hv0 : ¬ v.size = 0 := by omega
        have hac : ap = false := by rw [← HAP.out]; simp [apOk, HYO.out, HIN.out, hq, hv, hv0]
        subst hac
        go_wp2_with (((with_reducible refine calls_id ?_); refine (HKEY.out _).mono ?_; rintro z w9 ⟨rfl, rfl⟩))
        go_ret
        exact ⟨rfl, HB.out⟩
      · rw [decide_eq_false hvv] at hem
        have hv0 : v.size = 0 := by omega
        cases yo with
        | false =>
          have hac : ap = false := by rw [← HAP.out]; simp [apOk, HYO.out, HIN.out, hq, hv, hv0]
          subst hac
          go_wp2_with (((with_reducible refine calls_id ?_); refine (HKEY.out _).mono ?_; rintro z w9 ⟨rfl, rfl⟩))
          go_ret
          exact ⟨rfl, HB.out⟩
        | true =>
          have hac : ap = true := by rw [← HAP.out]; simp [apOk, HYO.out, HIN.out, hq, hv, hv0, hm]
          subst hac
          go_wp2_with (((with_reducible refine calls_id ?_); refine (HKEY.out _).mono ?_; rintro z w9 ⟨rfl, rfl⟩))
          go_ret
          exact ⟨rfl, HB.out⟩
end Go.Proofs.Ytcpkaolfafeojaa
