
/- The law HandlePut: the Go function returns true, whatever counts it is given. -/
import Derived.Test.YtcepknjcgknidaaRPut17
import Derived.Test.YtcepknjcgknidaaRead17
namespace Go.Proofs.Ytcepknjcgknidaa
set_option linter.unusedVariables false
set_option linter.unusedSimpArgs false
open Go.RowKit
set_option maxRecDepth 100000 in
set_option maxHeartbeats 4000000 in
theorem handlePut_walk {A : Option Addr} {n c : Nat} {l0 : List Ct} (w : World) (hr : RdC w w.heap.size A n c l0) (hf0 : ∀ y ∈ l0, y.fits) :
    Calls Try.prog 11 #[.slice A n c] w fun r w' => r = .returned (.bool true) ∧ Below w.heap.size w w' := by
  have hours := ours17_any A n c l0 w hr
  obtain ⟨l, hl⟩ : ∃ l, l = l0.take 40 := ⟨_, rfl⟩
  have hf : ∀ y ∈ l, y.b < 4294967296 := fun y hy => (hf0 y (by rw [hl] at hy; exact List.mem_of_mem_take hy)).1
  rw [← hl] at hours
  have hl40 : l.length ≤ 40 := by rw [hl, List.length_take]; omega
  have HOU := Lib.hid hours
  generalize min n 40 = k at *
  clear hours hl hr hf0
  have HF := Lib.hid hf
  clear hf
  go_enter Try.func11, Try.ntmps11
  go_upto_region 2 with ((with_reducible refine calls_id ?_); refine HOU.out.mono ?_; rintro r w1 ⟨A1, c1, rfl, hown, hb1⟩)
  have HLK := Lib.hid hown.len
  have hk40 : k ≤ 40 := by have := HLK.out; omega
  have hrdh := hown.rd
  obtain ⟨h7, hb2⟩ := one_at w1 62 [.slice A1 k c1]
  replace hrdh := hrdh.step hb2
  have HB := Lib.hid (chain hb1 hb2)
  generalize World.alloc _ _ = w2 at *
  generalize w1.heap.size = g7 at *
  obtain ⟨x0, x1⟩ := at1 h7
  clear hb1 hb2 hown HOU
  go_upto_region 3 with (((with_reducible refine calls_id ?_); refine (plain17_any A1 k c1 l _ hrdh (by omega)).mono ?_; rintro r w3 ⟨A3, c3, rfl, ho3, hb3⟩); (replace hrdh := hrdh.step hb3); (replace h7 := h7.step hb3); (replace HB := Lib.hid (chain HB.out hb3)))
  have hrdw : RdC w3 w3.heap.size A3 k c3 l := ho3.rd
  clear x0 x1 hb3 ho3
  obtain ⟨x0, x1⟩ := at1 h7
  cases hq : right17 l with
  | false =>
    have HP := Lib.hid (hput_no A1 k c1 l w3 hrdh HF.out hq)
    go_upto_region 4 with (((with_reducible refine calls_id ?_); refine HP.out.mono ?_; rintro r w4 ⟨rfl, hb4⟩); (replace hrdh := hrdh.step hb4); (replace hrdw := hrdw.step hb4); (replace h7 := h7.step hb4); (replace HB := Lib.hid (chain HB.out hb4)))
    clear x0 x1 hb4 HP
    obtain ⟨x0, x1⟩ := at1 h7
    have HR1 := Lib.hid (fun w hr => right17_any A1 k c1 l w hr HF.out)
    have HR2 := Lib.hid (fun w hr => rright17_any A3 k c3 l w hr HF.out)
    rw [hq] at HR1 HR2
    go_wp2_with (first
      | (((with_reducible refine calls_id ?_); refine (HR1.out _ hrdh).mono ?_; rintro r w5 ⟨rfl, hb5⟩); (replace hrdh := hrdh.step hb5); (replace hrdw := hrdw.step hb5); (replace h7 := h7.step hb5); (replace HB := Lib.hid (chain HB.out hb5)))
      | (((with_reducible refine calls_id ?_); refine (HR2.out _ hrdw).mono ?_; rintro r w6 ⟨rfl, hb6⟩); (replace hrdh := hrdh.step hb6); (replace hrdw := hrdw.step hb6); (replace h7 := h7.step hb6); (replace HB := Lib.hid (chain HB.out hb6)))
      | (((with_reducible refine calls_id ?_); refine (awake17_any _).mono ?_; rintro r w7 ⟨rfl, hb7⟩); replace HB := Lib.hid (chain HB.out hb7)))
    go_ret
    exact ⟨rfl, HB.out⟩
  | true =>
    have HP := Lib.hid (hput_yes A1 k c1 l w3 hrdh HF.out hq)
    have hrdp := fun w (h : ByteArray.size ⟨(putH l).toArray⟩ ≤ 100000) => hread_any ⟨(putH l).toArray⟩ w h
    rw [show (⟨(putH l).toArray⟩ : ByteArray).data.toList = putH l from by simp, readH_put hq HF.out] at hrdp
    have HQ := Lib.hid hq
    have HPP := Lib.hid (fun w hr => rput17_any A3 k c3 l w hr hq HF.out)
    have hsz : ByteArray.size ⟨(putH l).toArray⟩ ≤ 100000 := by
      show (putH l).toArray.size ≤ _
      rw [List.size_toArray, putH_length]; omega
    have HR1 := Lib.hid (fun w hr => right17_any A1 k c1 l w hr HF.out)
    have HR2 := Lib.hid (fun w hr => rright17_any A3 k c3 l w hr HF.out)
    rw [hq] at HR1 HR2
    generalize (⟨(putH l).toArray⟩ : ByteArray) = S at *
    have HRP := Lib.hid (fun w => hrdp w hsz)
    clear hrdp hq hsz
    go_upto_region 4 with (((with_reducible refine calls_id ?_); refine HP.out.mono ?_; rintro r w4 ⟨rfl, hb4⟩); (replace hrdh := hrdh.step hb4); (replace hrdw := hrdw.step hb4); (replace h7 := h7.step hb4); (replace HB := Lib.hid (chain HB.out hb4)))
    clear x0 x1 hb4 HP
    obtain ⟨x0, x1⟩ := at1 h7
    go_upto_region 8 with (first
      | (((with_reducible refine calls_id ?_); refine (HR1.out _ hrdh).mono ?_; rintro r w5 ⟨rfl, hb5⟩); (replace hrdh := hrdh.step hb5); (replace hrdw := hrdw.step hb5); (replace h7 := h7.step hb5); (replace HB := Lib.hid (chain HB.out hb5)))
      | (((with_reducible refine calls_id ?_); refine (HR2.out _ hrdw).mono ?_; rintro r w6 ⟨rfl, hb6⟩); (replace hrdh := hrdh.step hb6); (replace hrdw := hrdw.step hb6); (replace h7 := h7.step hb6); (replace HB := Lib.hid (chain HB.out hb6))))
    clear x0 x1 HR1 HR2
    go_upto_region 9 with (((with_reducible refine calls_id ?_); refine (HRP.out _).mono ?_; rintro r w8 ⟨A8, n8, c8, rfl, ho8, hb8⟩); (replace hrdh := hrdh.step hb8); (replace hrdw := hrdw.step hb8); (replace h7 := h7.step hb8); (replace HB := Lib.hid (chain HB.out hb8)))
    have HLK8 := Lib.hid ho8.len
    have hk8 : n8 ≤ 40 := by have := HLK8.out; (try simp only at this); omega
    have hrdy : RdC w8 w8.heap.size A8 n8 c8 l := ho8.rd
    obtain ⟨h8, hb9⟩ := one_at w8 62 [.slice A8 n8 c8]
    (replace hrdh := hrdh.step hb9); (replace hrdw := hrdw.step hb9); (replace h7 := h7.step hb9); (replace hrdy := hrdy.step hb9); (replace HB := Lib.hid (chain HB.out hb9))
    clear hb9 hb8 ho8 HRP
    generalize World.alloc _ _ = w9 at *
    generalize w8.heap.size = g8 at *
    obtain ⟨x0, x1⟩ := at1 h7
    obtain ⟨y0, y1⟩ := at1 h8
    go_wp2_with (first
      | (((with_reducible refine calls_id ?_); refine (HPP.out _ hrdw).mono ?_; rintro r w10 ⟨rfl, hb10⟩); (replace hrdh := hrdh.step hb10); (replace hrdw := hrdw.step hb10); (replace h7 := h7.step hb10); (replace hrdy := hrdy.step hb10); (replace h8 := h8.step hb10); (replace HB := Lib.hid (chain HB.out hb10)); (obtain ⟨x0, x1⟩ := at1 h7); (obtain ⟨y0, y1⟩ := at1 h8))
      | (((with_reducible refine calls_id ?_); refine (plain17_any A8 n8 c8 l _ hrdy (by omega)).mono ?_; rintro r w11 ⟨A11, c11, rfl, ho11, hb11⟩); (replace hrdh := hrdh.step hb11); (replace hrdw := hrdw.step hb11); (replace h7 := h7.step hb11); (replace h8 := h8.step hb11); (replace HB := Lib.hid (chain HB.out hb11)); (obtain ⟨x0, x1⟩ := at1 h7); (obtain ⟨y0, y1⟩ := at1 h8); have hrdz := ho11.rd)
      | (((with_reducible refine calls_id ?_); refine (same17_any _ _ _ l _ _ _ l _ hrdz hrdw).mono ?_; rintro r w12 ⟨rfl, hb12⟩); (rw [decide_eq_true (show l = l from rfl)]); (replace hrdh := hrdh.step hb12); (replace hrdw := hrdw.step hb12); (replace h7 := h7.step hb12); (replace h8 := h8.step hb12); (replace HB := Lib.hid (chain HB.out hb12)); (obtain ⟨x0, x1⟩ := at1 h7); (obtain ⟨y0, y1⟩ := at1 h8))
      | (((with_reducible refine calls_id ?_); refine (tot17_any A1 k c1 l _ hrdh HQ.out).mono ?_; rintro r w13 ⟨rfl, hb13⟩); (replace hrdw := hrdw.step hb13); (replace h7 := h7.step hb13); (replace h8 := h8.step hb13); (replace HB := Lib.hid (chain HB.out hb13)); (obtain ⟨x0, x1⟩ := at1 h7); (obtain ⟨y0, y1⟩ := at1 h8))
      | (((with_reducible refine calls_id ?_); refine (rtot17_any A3 k c3 l _ hrdw HQ.out).mono ?_; rintro r w14 ⟨rfl, hb14⟩); (replace h7 := h7.step hb14); (replace h8 := h8.step hb14); (replace HB := Lib.hid (chain HB.out hb14)); (obtain ⟨x0, x1⟩ := at1 h7); (obtain ⟨y0, y1⟩ := at1 h8))
      | (((with_reducible refine calls_id ?_); refine (awake17_any _).mono ?_; rintro r w15 ⟨rfl, hb15⟩); replace HB := Lib.hid (chain HB.out hb15)))
    go_ret
    exact ⟨rfl, HB.out⟩
end Go.Proofs.Ytcepknjcgknidaa
