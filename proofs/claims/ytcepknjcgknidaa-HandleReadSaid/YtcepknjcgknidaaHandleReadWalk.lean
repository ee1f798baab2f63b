
/- The law HandleRead: the Go function returns true, whatever bytes it is given. -/
import Derived.Test.YtcepknjcgknidaaRPut17
import Derived.Test.YtcepknjcgknidaaRead17
namespace Go.Proofs.Ytcepknjcgknidaa
set_option linter.unusedVariables false
set_option linter.unusedSimpArgs false
open Go.RowKit
set_option maxRecDepth 100000 in
set_option maxHeartbeats 4000000 in
theorem handleRead_short {s : ByteArray} (w : World) (hs : s.size ≤ 200) :
    Calls Try.prog 10 #[.string s] w fun r w' => r = .returned (.bool true) ∧ Below w.heap.size w w' := by
  have hrd := hread_any s w (by omega)
  by_cases hz : (readH (s).data.toList).2 = 0
  · obtain ⟨h17, hput, hok⟩ := readH_back hz
    obtain ⟨l, hl⟩ : ∃ l, readH (s).data.toList = (l, 0) := ⟨(readH (s).data.toList).1, Prod.ext rfl hz⟩
    rw [hl] at hrd h17 hput hok
    simp only at h17 hput hok
    have hfl : ∀ y ∈ l, y.b < 4294967296 := fun y hy => (hok y hy).1
    have hS : (⟨(putH l).toArray⟩ : ByteArray) = s := by rw [hput]
    have hl4 := (of_decide_eq_true h17).2
    have HF := Lib.hid hfl
    have HPS := Lib.hid hS
    have HRD := Lib.hid hrd
    have HQ := Lib.hid h17
    clear hfl hS hput hok hl hz hrd h17
    skip
    go_enter Try.func10, Try.ntmps10
    skip
    go_upto_region 4 with ((with_reducible refine calls_id ?_); refine HRD.out.mono ?_; rintro r w1 ⟨A1, n1, c1, rfl, hown, hb1⟩)
    have HLK := Lib.hid hown.len
    have hk40 : n1 ≤ 4096 := by have := HLK.out; (try simp only at this); omega
    have hrd := hown.rd
    try simp only at hrd
    obtain ⟨h0, hb2⟩ := one_at w1 62 [.slice A1 n1 c1]
    replace hrd := hrd.step hb2
    have HB := Lib.hid (chain hb1 hb2)
    clear hown hb1 hb2 HRD
    generalize World.alloc _ _ = w2 at *
    generalize w1.heap.size = g at *
    obtain ⟨x0, x1⟩ := at1 h0
    have hr5 := RdC.len hrd
    go_wp2_with (first
      | (((with_reducible refine calls_id ?_); refine (plain17_any A1 n1 c1 l _ hrd (by omega)).mono ?_; rintro r w3 ⟨A3, c3, rfl, ho3, hb3⟩); (replace hrd := hrd.step hb3); (replace h0 := h0.step hb3); (replace HB := Lib.hid (chain HB.out hb3)); (obtain ⟨x0, x1⟩ := at1 h0); have hrd3 := ho3.rd)
      | (((with_reducible refine calls_id ?_); refine (rright17_any _ n1 _ l _ hrd3 HF.out).mono ?_; rintro r w4 ⟨rfl, hb4⟩); (have HQ' := HQ.out); (replace hrd := hrd.step hb4); (replace h0 := h0.step hb4); (replace hrd3 := hrd3.step hb4); (replace HB := Lib.hid (chain HB.out hb4)); (obtain ⟨x0, x1⟩ := at1 h0))
      | (((with_reducible refine calls_id ?_); refine (rput17_any _ n1 _ l _ hrd3 HQ.out HF.out).mono ?_; rintro r w4 ⟨rfl, hb4⟩); (have HS' := HPS.out); (replace hrd := hrd.step hb4); (replace h0 := h0.step hb4); (replace HB := Lib.hid (chain HB.out hb4)); (obtain ⟨x0, x1⟩ := at1 h0))
      | (((with_reducible refine calls_id ?_); refine (awake17_any _).mono ?_; rintro r w4 ⟨rfl, hb4⟩); have HB := Lib.hid (chain HB.out hb4)))
    go_ret
    exact ⟨rfl, HB.out⟩
  · have hl := readH_no hz
    rw [hl] at hrd
    have HRD := Lib.hid hrd
    clear hz hl hrd
    skip
    go_enter Try.func10, Try.ntmps10
    skip
    go_upto_region 4 with ((with_reducible refine calls_id ?_); refine HRD.out.mono ?_; rintro r w1 ⟨A1, n1, c1, rfl, hown, hb1⟩)
    have hl0 := hown.len
    obtain rfl : n1 = 0 := hl0
    obtain ⟨h0, hb2⟩ := one_at w1 62 [.slice A1 0 c1]
    have HB := Lib.hid (chain hb1 hb2)
    clear hown hb1 hb2 HRD
    generalize World.alloc _ _ = w2 at *
    generalize w1.heap.size = g at *
    obtain ⟨x0, x1⟩ := at1 h0
    go_wp2_with (((with_reducible refine calls_id ?_); refine (awake17_any _).mono ?_; rintro r w4 ⟨rfl, hb4⟩); have HB := Lib.hid (chain HB.out hb4))
    go_ret
    exact ⟨rfl, HB.out⟩
set_option maxRecDepth 100000 in
set_option maxHeartbeats 4000000 in
theorem handleRead_long {s : ByteArray} (w : World) (hs0 : 200 < s.size) :
    Calls Try.prog 10 #[.string s] w fun r w' => r = .returned (.bool true) ∧ Below w.heap.size w w' := by
  obtain ⟨q, hq⟩ : ∃ q, s.extract 0 200 = q := ⟨_, rfl⟩
  have hs : q.size ≤ 200 := by rw [← hq, ByteArray.size_extract]; omega
  have hrd := hread_any q w (by omega)
  by_cases hz : (readH (q).data.toList).2 = 0
  · obtain ⟨h17, hput, hok⟩ := readH_back hz
    obtain ⟨l, hl⟩ : ∃ l, readH (q).data.toList = (l, 0) := ⟨(readH (q).data.toList).1, Prod.ext rfl hz⟩
    rw [hl] at hrd h17 hput hok
    simp only at h17 hput hok
    have hfl : ∀ y ∈ l, y.b < 4294967296 := fun y hy => (hok y hy).1
    have hS : (⟨(putH l).toArray⟩ : ByteArray) = q := by rw [hput]
    have hl4 := (of_decide_eq_true h17).2
    have HF := Lib.hid hfl
    have HPS := Lib.hid hS
    have HRD := Lib.hid hrd
    have HQ := Lib.hid h17
    clear hfl hS hput hok hl hz hrd h17
    skip
    go_enter Try.func10, Try.ntmps10
    skip
    go_upto_region 4 with ((with_reducible refine calls_id ?_); refine HRD.out.mono ?_; rintro r w1 ⟨A1, n1, c1, rfl, hown, hb1⟩)
    have HLK := Lib.hid hown.len
    have hk40 : n1 ≤ 4096 := by have := HLK.out; (try simp only at this); omega
    have hrd := hown.rd
    try simp only at hrd
    obtain ⟨h0, hb2⟩ := one_at w1 62 [.slice A1 n1 c1]
    replace hrd := hrd.step hb2
    have HB := Lib.hid (chain hb1 hb2)
    clear hown hb1 hb2 HRD
    generalize World.alloc _ _ = w2 at *
    generalize w1.heap.size = g at *
    obtain ⟨x0, x1⟩ := at1 h0
    have hr5 := RdC.len hrd
    go_wp2_with (first
      | (((with_reducible refine calls_id ?_); refine (plain17_any A1 n1 c1 l _ hrd (by omega)).mono ?_; rintro r w3 ⟨A3, c3, rfl, ho3, hb3⟩); (replace hrd := hrd.step hb3); (replace h0 := h0.step hb3); (replace HB := Lib.hid (chain HB.out hb3)); (obtain ⟨x0, x1⟩ := at1 h0); have hrd3 := ho3.rd)
      | (((with_reducible refine calls_id ?_); refine (rright17_any _ n1 _ l _ hrd3 HF.out).mono ?_; rintro r w4 ⟨rfl, hb4⟩); (have HQ' := HQ.out); (replace hrd := hrd.step hb4); (replace h0 := h0.step hb4); (replace hrd3 := hrd3.step hb4); (replace HB := Lib.hid (chain HB.out hb4)); (obtain ⟨x0, x1⟩ := at1 h0))
      | (((with_reducible refine calls_id ?_); refine (rput17_any _ n1 _ l _ hrd3 HQ.out HF.out).mono ?_; rintro r w4 ⟨rfl, hb4⟩); (have HS' := HPS.out); (replace hrd := hrd.step hb4); (replace h0 := h0.step hb4); (replace HB := Lib.hid (chain HB.out hb4)); (obtain ⟨x0, x1⟩ := at1 h0))
      | (((with_reducible refine calls_id ?_); refine (awake17_any _).mono ?_; rintro r w4 ⟨rfl, hb4⟩); have HB := Lib.hid (chain HB.out hb4)))
    go_ret
    exact ⟨rfl, HB.out⟩
  · have hl := readH_no hz
    rw [hl] at hrd
    have HRD := Lib.hid hrd
    clear hz hl hrd
    skip
    go_enter Try.func10, Try.ntmps10
    skip
    go_upto_region 4 with ((with_reducible refine calls_id ?_); refine HRD.out.mono ?_; rintro r w1 ⟨A1, n1, c1, rfl, hown, hb1⟩)
    have hl0 := hown.len
    obtain rfl : n1 = 0 := hl0
    obtain ⟨h0, hb2⟩ := one_at w1 62 [.slice A1 0 c1]
    have HB := Lib.hid (chain hb1 hb2)
    clear hown hb1 hb2 HRD
    generalize World.alloc _ _ = w2 at *
    generalize w1.heap.size = g at *
    obtain ⟨x0, x1⟩ := at1 h0
    go_wp2_with (((with_reducible refine calls_id ?_); refine (awake17_any _).mono ?_; rintro r w4 ⟨rfl, hb4⟩); have HB := Lib.hid (chain HB.out hb4))
    go_ret
    exact ⟨rfl, HB.out⟩
theorem handleRead_walk {s : ByteArray} (w : World) (_ : s.size ≤ maxLen) :
    Calls Try.prog 10 #[.string s] w fun r w' => r = .returned (.bool true) ∧ Below w.heap.size w w' := by
  by_cases h : s.size ≤ 200
  · exact handleRead_short w h
  · exact handleRead_long w (by omega)
end Go.Proofs.Ytcepknjcgknidaa
