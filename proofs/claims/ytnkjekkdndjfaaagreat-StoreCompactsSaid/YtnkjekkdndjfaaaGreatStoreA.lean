
/- Chapter 11: the state of the file that has all; the records of a log, done. -/
import Derived.Test.YtnkjekkdndjfaaaGreatStoreOwn
namespace Go.Proofs.YtnkjekkdndjfaaaGreat
set_option linter.unusedVariables false
set_option linter.unusedSimpArgs false
open Go.RowKit
section
variable {w w' : World} {gd bd N gst bst Ns M K : Nat} {d : PD} {rev : Int} {l : List It}
theorem base_nil (w : World) : Calls Tryz.prog 35 #[.pointer none] w fun x w' => x = .returned (.tuple #[.pointer none, .int .i64 2]) ∧ w = w' := by
  go_enter Tryz.func35, Tryz.ntmps35
  go_wp2_with (((with_reducible refine ((load_nil w)).mono ?_); rintro z v ⟨rfl, rfl⟩))
  exact bodyPost_ret (v := .tuple #[.pointer none, .int .i64 2]) (by simp [results, Tryz.results35, go_sem]) rfl ⟨rfl, rfl⟩
theorem base_ok (w : World) (h : IsD w gd bd N d) (ho : d.Ok M K) (hM : M ≤ 1500000) (hb : bsC d = 0) :
    Calls Tryz.prog 35 #[.pointer (some ⟨gd, 0, none⟩)] w fun x w' => ∃ g b, x = .returned (.tuple #[.pointer (some ⟨g, 0, none⟩), .int .i64 0]) ∧ IsSt w' g b M (bsS d).rev (bsS d).l ∧ w.heap.size ≤ b ∧ b < g ∧ Below w.heap.size w w' := by
  have HL := load_any snapN_mx w h ho (by omega)
  unfold bsC at hb
  unfold bsS
  obtain ⟨c, hc⟩ : ∃ c, ldC d snapN = c := ⟨_, rfl⟩
  have hlen : (ldB d snapN).length ≤ M := by
    unfold ldB
    have := ok_rb ho snapN
    split
    · split
      · rw [List.length_take]; omega
      · exact Nat.zero_le _
    · exact Nat.zero_le _
  generalize ldB d snapN = bl at *
  rw [hc] at HL hb ⊢
  clear hc h ho
  by_cases h0 : c = 0
  · subst h0
    rw [if_pos rfl] at hb ⊢
    by_cases hq : okS bl = true
    · obtain ⟨rs, hrs⟩ : ∃ rs, rdS bl = rs := ⟨_, rfl⟩
      obtain ⟨rv, li, st⟩ := rs
      obtain ⟨_, _, h16⟩ := okS_right hq hrs
      rw [hrs]
      go_enter Tryz.func35, Tryz.ntmps35
      go_upto_region 4 with (((with_reducible refine (HL).mono ?_); rintro z w1 ⟨A, n, k, rfl, hrd, hb1⟩))
      have hnl := hrd.length
      have HR := rd_yes w1 hrd (by omega) hq hrs
      have hs1 := hb1.size
      have HB := Lib.hid hb1
      clear HL hrd hb1
      go_wp2_with (((with_reducible refine (HR).mono ?_); rintro z w2 ⟨g, b, rfl, hst, hgb, hbg, hb2⟩))
      exact bodyPost_ret (v := .tuple #[.pointer (some ⟨g, 0, none⟩), .int .i64 0]) (by simp [results, Tryz.results35, go_sem]) rfl ⟨g, b, rfl, hst.more (by omega), by omega, hbg, chain HB.out hb2⟩
    · rw [if_neg hq] at hb; cases hb
  · rw [if_neg h0] at hb ⊢
    by_cases h6 : c = 6
    · subst h6
      clear hb h0
      go_enter Tryz.func35, Tryz.ntmps35
      go_upto_region 6 with (((with_reducible refine (HL).mono ?_); rintro z w1 ⟨A, n, k, rfl, hrd, hb1⟩))
      have HR := new_st w1
      have hs1 := hb1.size
      have HB := Lib.hid hb1
      clear HL hrd hb1
      go_wp2_with (((with_reducible refine (HR).mono ?_); rintro z w2 ⟨g, b, rfl, hst, hgb, hbg, hb2⟩))
      exact bodyPost_ret (v := .tuple #[.pointer (some ⟨g, 0, none⟩), .int .i64 0]) (by simp [results, Tryz.results35, go_sem]) rfl ⟨g, b, rfl, hst.more (Nat.zero_le _), by omega, hbg, chain HB.out hb2⟩
    · rw [if_neg h6] at hb; exact absurd hb h0
theorem base_bad (w : World) (h : IsD w gd bd N d) (ho : d.Ok M K) (hM : M ≤ 1500000) (hb : bsC d ≠ 0) :
    Calls Tryz.prog 35 #[.pointer (some ⟨gd, 0, none⟩)] w fun x w' => x = .returned (.tuple #[.pointer none, .int .i64 (bsC d)]) ∧ Below w.heap.size w w' := by
  have HL := load_any snapN_mx w h ho (by omega)
  unfold bsC at hb ⊢
  obtain ⟨c, hc⟩ : ∃ c, ldC d snapN = c := ⟨_, rfl⟩
  have hlen : (ldB d snapN).length ≤ M := by
    unfold ldB
    have := ok_rb ho snapN
    split
    · split
      · rw [List.length_take]; omega
      · exact Nat.zero_le _
    · exact Nat.zero_le _
  generalize ldB d snapN = bl at *
  rw [hc] at HL hb ⊢
  clear hc h ho
  by_cases h0 : c = 0
  · subst h0
    rw [if_pos rfl] at hb ⊢
    by_cases hq : okS bl = true
    · rw [if_pos hq] at hb; exact absurd rfl hb
    · rw [if_neg hq]
      have hq2 : okS bl = false := by simpa using hq
      clear hb hq
      go_enter Tryz.func35, Tryz.ntmps35
      go_upto_region 4 with (((with_reducible refine (HL).mono ?_); rintro z w1 ⟨A, n, k, rfl, hrd, hb1⟩))
      have hnl := hrd.length
      have HR := rd_no w1 hrd (by omega) hq2
      have HB := Lib.hid hb1
      clear HL hrd hb1
      go_wp2_with (((with_reducible refine (HR).mono ?_); rintro z w2 ⟨rfl, hb2⟩))
      exact bodyPost_ret (v := .tuple #[.pointer none, .int .i64 3]) (by simp [results, Tryz.results35, go_sem]) rfl ⟨rfl, chain HB.out hb2⟩
  · rw [if_neg h0] at hb ⊢
    by_cases h6 : c = 6
    · rw [if_pos h6] at hb; exact absurd rfl hb
    · rw [if_neg h6]
      have b0 : (c == 0) = false := by simpa using h0
      have b6 : (c == 6) = false := by simpa using h6
      clear h0 h6 hb
      go_enter Tryz.func35, Tryz.ntmps35
      go_wp2_with (((with_reducible refine (HL).mono ?_); rintro z w1 ⟨A, n, k, rfl, hrd, hb1⟩))
      exact bodyPost_ret (v := .tuple #[.pointer none, .int .i64 c]) (by simp [results, Tryz.results35, go_sem]) rfl ⟨rfl, hb1⟩
end
end Go.Proofs.YtnkjekkdndjfaaaGreat
