
/- Chapter 9: the example; a state that is not there. -/
import Derived.Test.YtcpkaolfafeojaaKvDo
namespace Go.Proofs.Ytcpkaolfafeojaa
set_option linter.unusedVariables false
set_option linter.unusedSimpArgs false
open Go.RowKit
def exA : Ask := ⟨3, ⟨#[97]⟩, ⟨#[]⟩, 0, ⟨#[]⟩, 0⟩
def exB : Ask := ⟨4, ⟨#[97]⟩, ⟨#[]⟩, 1, ⟨#[]⟩, 0⟩
def exI (r : Int) : It := ⟨⟨#[97]⟩, ⟨#[]⟩, r⟩
theorem ex1 : planP 0 [] exA = ⟨⟨0, 1, ⟨#[]⟩, []⟩, ⟨⟨#[97]⟩, ⟨#[]⟩, 1, false⟩, true⟩ := by kernel_rfl
theorem ex2 : planP 1 [exI 1] exB = ⟨⟨0, 2, ⟨#[]⟩, []⟩, ⟨⟨#[97]⟩, ⟨#[]⟩, 2, false⟩, true⟩ := by kernel_rfl
theorem ex3 : planP 2 [exI 2] exB = ⟨⟨8, 0, ⟨#[]⟩, []⟩, Eff.zero, false⟩ := by kernel_rfl
theorem ex1s : doSt 0 [] exA = (1, [exI 1]) := by kernel_rfl
theorem ex2s : doSt 1 [exI 1] exB = (2, [exI 2]) := by kernel_rfl
theorem ex3s : doSt 2 [exI 2] exB = (2, [exI 2]) := by kernel_rfl
theorem one_max : 1 ≤ maxLen := by simp only [maxLen]; omega
theorem exK (r : Int) : ∀ x ∈ [exI r], x.k.size ≤ 1000 := by
  intro x hx
  rw [List.mem_singleton] at hx
  subst hx
  show 1 ≤ 1000
  omega
set_option maxRecDepth 100000 in
set_option maxHeartbeats 4000000 in
theorem awake9_any (w : World) : Calls Try.prog 40 #[] w fun r w' => r = .returned (.bool true) ∧ Below w.heap.size w w' := by
  have HNEW := Lib.hid (new_st w)
  go_enter Try.func40, Try.ntmps40
  go_upto_region 2 with (((with_reducible refine calls_id ?_); refine HNEW.out.mono ?_; rintro r w1 ⟨g, b, rfl, hst, hwb, hbg, hb⟩))
  have hdo := do_any exA w1 hst (by omega) (by simp) one_max (Nat.zero_le _) (by rw [ex1]; exact one_max)
  unfold DoR at hdo
  rw [ex1, ex1s] at hdo
  unfold exA Ask.v Ask.cells at hdo
  simp only at hdo
  have HDO := Lib.hid hdo
  clear hdo
  clear HNEW
  go_upto_region 3 with (((with_reducible refine calls_id ?_); refine HDO.out.mono ?_; rintro r w2 ⟨A2, n2, c2, rfl, _, hst2, hm2, _⟩))
  have hb2 := hb.trans (hm2.toBelow (fun i o hi e => by rcases e with e | e <;> omega) hb.size)
  obtain ⟨h2, hb3⟩ := one_at w2 49 [.int .i64 0, .int .i64 1, .string ⟨#[]⟩, .slice A2 n2 c2]
  have hst3 := hst2.step hb3
  have hlt2 := hst2.lt
  replace hb := chain hb2 hb3
  clear hst hst2 hm2 hb2 hb3 HDO
  generalize World.alloc _ _ = w3 at *
  generalize w2.heap.size = g2 at *
  have hdo := do_any exB w3 hst3 (by omega) (exK 1) one_max (Nat.zero_le _) (by rw [ex2]; exact one_max)
  unfold DoR at hdo
  rw [ex2, ex2s] at hdo
  unfold exB Ask.v Ask.cells at hdo
  simp only at hdo
  have HDO := Lib.hid hdo
  clear hdo
  go_upto_region 4 with (((with_reducible refine calls_id ?_); refine HDO.out.mono ?_; rintro r w4 ⟨A4, n4, c4, rfl, _, hst4, hm4, _⟩))
  have hlt3 := hst3.lt
  have hb4 := hb.trans (hm4.toBelow (fun i o hi e => by rcases e with e | e <;> omega) hb.size)
  replace h2 := hm4.at h2 (by omega)
  obtain ⟨h3, hb5⟩ := one_at w4 49 [.int .i64 0, .int .i64 2, .string ⟨#[]⟩, .slice A4 n4 c4]
  have hst5 := hst4.step hb5
  have hlt4 := hst4.lt
  replace h2 := h2.step hb5
  replace hb := chain hb4 hb5
  clear hst3 hst4 hm4 hb4 hb5 HDO
  generalize World.alloc _ _ = w5 at *
  generalize w4.heap.size = g3 at *
  have hdo := do_any exB w5 hst5 (by omega) (exK 2) one_max (Nat.zero_le _) (by rw [ex3]; exact (Nat.zero_le _))
  unfold DoR at hdo
  rw [ex3, ex3s] at hdo
  unfold exB Ask.v Ask.cells at hdo
  simp only at hdo
  have HDO := Lib.hid hdo
  clear hdo
  go_upto_region 5 with (((with_reducible refine calls_id ?_); refine HDO.out.mono ?_; rintro r w6 ⟨A6, n6, c6, rfl, _, hst6, hm6, _⟩))
  have hb6 := hb.trans (hm6.toBelow (fun i o hi e => by rcases e with e | e <;> omega) hb.size)
  replace h2 := hm6.at h2 (by omega)
  replace h3 := hm6.at h3 (by omega)
  obtain ⟨h4, hb7⟩ := one_at w6 49 [.int .i64 8, .int .i64 0, .string ⟨#[]⟩, .slice A6 n6 c6]
  have hst7 := hst6.step hb7
  replace h2 := h2.step hb7
  replace h3 := h3.step hb7
  replace hb := chain hb6 hb7
  clear hst5 hst6 hm6 hb6 hb7 HDO
  generalize World.alloc _ _ = w7 at *
  generalize w6.heap.size = g4 at *
  obtain ⟨⟨x0, x1, x2, x3⟩, xf⟩ := at4 h2
  obtain ⟨⟨y0, y1, y2, y3⟩, yf⟩ := at4 h3
  obtain ⟨⟨z0, z1, z2, z3⟩, zf⟩ := at4 h4
  have HREV := Lib.hid (rev_any w7 hst7)
  have HB := Lib.hid hb
  clear hst7 h2 h3 h4 hb
  go_wp2_with (((with_reducible refine calls_id ?_); refine HREV.out.mono ?_; rintro r w8 ⟨rfl, rfl⟩))
  go_ret
  exact ⟨rfl, HB.out⟩
end Go.Proofs.Ytcpkaolfafeojaa
