
/- The law HandleFits: the Go function returns true, whatever counts it is given. -/
import Derived.Test.YtcepknjcgknidaaPut17
namespace Go.Proofs.Ytcepknjcgknidaa
set_option linter.unusedVariables false
set_option linter.unusedSimpArgs false
open Go.RowKit
set_option maxRecDepth 100000 in
set_option maxHeartbeats 4000000 in
theorem handleFits_walk {A : Option Addr} {n c : Nat} {l0 : List Ct} (w : World) (hr : RdC w w.heap.size A n c l0) (hf0 : ∀ y ∈ l0, y.fits) :
    Calls Try.prog 9 #[.slice A n c] w fun r w' => r = .returned (.bool true) ∧ Below w.heap.size w w' := by
  have hours := ours17_any A n c l0 w hr
  obtain ⟨l, hl⟩ : ∃ l, l = l0.take 40 := ⟨_, rfl⟩
  have hf : ∀ y ∈ l, y.b < 4294967296 := fun y hy => (hf0 y (by rw [hl] at hy; exact List.mem_of_mem_take hy)).1
  rw [← hl] at hours
  have hl40 : l.length ≤ 40 := by rw [hl, List.length_take]; omega
  have HOU := Lib.hid hours
  generalize min n 40 = k at *
  clear hours hl hr hf0
  have HF := Lib.hid hf
  clear hf
  go_enter Try.func9, Try.ntmps9
  go_upto_region 2 with (((with_reducible refine calls_id ?_); refine HOU.out.mono ?_; rintro r w1 ⟨A1, c1, rfl, hown, hb1⟩))
  have HLK := Lib.hid hown.len
  have hk40 : k ≤ 40 := by have := HLK.out; omega
  obtain ⟨h0, hb2⟩ := one_at w1 62 [.slice A1 k c1]
  replace hown := hown.below hb2
  have hb := chain hb1 hb2
  generalize World.alloc _ _ = w2 at *
  generalize w1.heap.size = g at *
  obtain ⟨x0, x1⟩ := at1 h0
  have HB := Lib.hid hb
  have HR := Lib.hid hown.rd
  clear hb hb1 hb2 hown HOU
  cases hq : right17 l with
  | false =>
    go_upto_region 3 with (((with_reducible refine calls_id ?_); refine (hput_no A1 k c1 l w2 HR.out HF.out hq).mono ?_; rintro r w3 ⟨rfl, hb3⟩))
    have HB := Lib.hid (chain HB.out hb3)
    clear hb3 x0 x1
    go_wp2_with (((with_reducible refine calls_id ?_); refine (awake17_any _).mono ?_; rintro r w4 ⟨rfl, hb4⟩); have HB := Lib.hid (chain HB.out hb4))
    go_ret
    exact ⟨rfl, HB.out⟩
  | true =>
    have hpl := putH_length l
    have hsz : ByteArray.size ⟨(putH l).toArray⟩ = 3 + 6 * k := by
      show (putH l).toArray.size = _
      rw [List.size_toArray, hpl, HLK.out]
    have HP := Lib.hid (hput_yes A1 k c1 l w2 HR.out HF.out hq)
    clear hpl
    generalize (⟨(putH l).toArray⟩ : ByteArray) = S at *
    have HSZ := Lib.hid hsz
    clear hsz
    go_upto_region 3 with (((with_reducible refine calls_id ?_); refine HP.out.mono ?_; rintro r w3 ⟨rfl, hb3⟩))
    have HB := Lib.hid (chain HB.out hb3)
    replace h0 := h0.below hb3
    clear hb3 x0 x1
    obtain ⟨x0, x1⟩ := at1 h0
    have hsb : S.size ≤ 300 := by have := HSZ.out; omega
    have hw1 : ((S.size : Int) == 3 + 6 * (k : Int)) = true := by have := HSZ.out; rw [beq_iff_eq]; omega
    go_wp2_with (((with_reducible refine calls_id ?_); refine (awake17_any _).mono ?_; rintro r w4 ⟨rfl, hb4⟩); have HB := Lib.hid (chain HB.out hb4))
    go_ret
    exact ⟨rfl, HB.out⟩
end Go.Proofs.Ytcepknjcgknidaa
