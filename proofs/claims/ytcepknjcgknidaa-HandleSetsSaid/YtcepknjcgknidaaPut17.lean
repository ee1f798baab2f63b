
/- Chapter 17: handle.Put. -/
import Derived.Test.YtcepknjcgknidaaAwake17
import Derived.Test.YtcepknjcgknidaaPack
namespace Go.Proofs.Ytcepknjcgknidaa
set_option linter.unusedVariables false
set_option linter.unusedSimpArgs false
open Go.RowKit
/-- a count's bytes -/
def ctB (y : Ct) : List UInt8 := putN y.b 4 ++ putN y.n.toNat 2
/-- a handle's bytes -/
def putH (l : List Ct) : List UInt8 := (72 :: putN l.length 2) ++ l.flatMap ctB
theorem ctB_length (y : Ct) : (ctB y).length = 6 := by simp [ctB, putN_length]
theorem ctsB_length (l : List Ct) : (l.flatMap ctB).length = l.length * 6 := by
  induction l with
  | nil => rfl
  | cons y l ih => rw [List.flatMap_cons, List.length_append, ih, ctB_length, List.length_cons]; omega
theorem putH_length (l : List Ct) : (putH l).length = 3 + 6 * l.length := by
  simp only [putH, List.length_append, List.length_cons, putN_length, ctsB_length]; omega
theorem right_at {l : List Ct} (h : right17 l = true) {k : Nat} (hk : k < l.length) : (l[k]).b % 64 = 0 ∧ 1 ≤ (l[k]).n ∧ (l[k]).n ≤ 65535 := by
  have := (of_decide_eq_true h).1 k hk
  unfold okC at this
  rw [getD_at hk] at this
  exact ⟨this.1, this.2.1, this.2.2.1⟩
set_option maxRecDepth 100000 in
set_option maxHeartbeats 4000000 in
theorem hput_no (A : Option Addr) (n c : Nat) (l : List Ct) (w : World) (hr : RdC w w.heap.size A n c l) (hf : ∀ y ∈ l, y.b < 4294967296) (hq : right17 l = false) :
    Calls Try.prog 43 #[.agg #[.slice A n c]] w fun r w' => r = .returned (.tuple #[.string ⟨#[]⟩, .int .i64 1]) ∧ Below w.heap.size w w' := by
  obtain ⟨h0, hb⟩ := one_at w 62 [.slice A n c]
  have hma := right17_any A n c l _ ((hr.below hb).more hb.size) hf
  rw [hq] at hma
  have HMA := Lib.hid hma
  clear hma hr hf
  go_enter Try.func43, Try.ntmps43
  go_upto_region 1 with fail
  obtain ⟨x0, x1⟩ := at1 h0
  go_wp2_with (((with_reducible refine calls_id ?_); refine HMA.out.mono ?_; rintro r w2 ⟨rfl, hb2⟩); have HB := Lib.hid (chain hb hb2))
  go_ret2
  exact ⟨rfl, HB.out⟩
set_option maxRecDepth 100000 in
set_option maxHeartbeats 4000000 in
theorem hput_yes (A : Option Addr) (n c : Nat) (l : List Ct) (w : World) (hr : RdC w w.heap.size A n c l) (hf : ∀ y ∈ l, y.b < 4294967296) (hq : right17 l = true) :
    Calls Try.prog 43 #[.agg #[.slice A n c]] w fun r w' => r = .returned (.tuple #[.string ⟨(putH l).toArray⟩, .int .i64 0]) ∧ Below w.heap.size w w' := by
  have hl := RdC.len hr
  have hl4 := (of_decide_eq_true hq).2
  have hle := hr.le
  have hmax := hr.max
  unfold maxLen at hmax
  subst hl
  obtain ⟨h0, hb⟩ := one_at w 62 [.slice A l.length c]
  have HR := Lib.hid hr
  have hma := right17_any A l.length c l _ ((hr.below hb).more hb.size) hf
  rw [hq] at hma
  have HMA := Lib.hid hma
  have HF := Lib.hid hf
  have HQ := Lib.hid hq
  clear hma hr hf hq
  go_enter Try.func43, Try.ntmps43
  go_upto_region 1 with fail
  obtain ⟨x0, x1⟩ := at1 h0
  go_upto_region 3 with (((with_reducible refine calls_id ?_); refine HMA.out.mono ?_; rintro r w2 ⟨rfl, hb2⟩))
  replace hb := chain hb hb2
  replace h0 := h0.below hb2
  clear x0 x1 hb2 HMA
  have hb3 := (Below.refl w2.heap.size w2).alloc (Nat.le_refl _) (.cells #[.int .u8 72] 5)
  replace h0 := h0.below hb3
  have hp := put_any _ 1 1 [72] l.length 2 (w2.alloc (.cells #[.int .u8 72] 5)) ((RdB.one (w := w2) (t := 5) (b := 72) rfl).more (by simp)) (by omega) (by omega) (by omega) (by omega)
  simp only [Int.cast_ofNat_Int] at hp
  have HB := Lib.hid (chain hb hb3)
  have HP := Lib.hid hp
  have hs3 := hb3.size
  clear hp hb hb3
  obtain ⟨x0, x1⟩ := at1 h0
  go_upto_region 4 with (((with_reducible refine calls_id ?_); refine HP.out.mono ?_; rintro r w4 ⟨A4, c4, rfl, hown, hb4⟩))
  replace h0 := h0.below hb4
  have hown := hown.lower (base' := w.heap.size) (Nat.le_trans HB.out.size (Nat.le_refl _))
  replace HB := Lib.hid (chain HB.out hb4)
  clear x0 x1 hb4 HP hs3
  obtain ⟨x0, x1⟩ := at1 h0
  have e0 : (72 : UInt8) :: putN l.length 2 = [72] ++ putN l.length 2 := rfl
  rw [← e0] at hown
  have HW := Lib.hid hown
  clear hown e0
  generalize w2.alloc _ = w3 at *
  go_wp2_with fail
  go_loopw [4, 19] (fun v i wr => ∃ (k m : Nat) (A1 : Option Addr) (c1 : Nat), i = .int .i64 (k : Int) ∧ v = .slice A1 m c1 ∧ k ≤ l.length ∧ m = 3 + 6 * k ∧ OwnB wr w.heap.size A1 m c1 ((72 :: putN l.length 2) ++ (l.take k).flatMap ctB) ∧ Below w.heap.size w wr) (fun _ i _ => l.length - (intOf i).toNat)
  case atStart => exact ⟨0, 3, A4, c4, rfl, rfl, Nat.zero_le _, rfl, by simpa using HW.out, HB.out⟩
  case round =>
    clear HB h0 x0 x1 HW
    obtain ⟨k, m, A1, c1, rfl, rfl, hk, hm, hown, hb⟩ := hrel
    have hsz := hb.size
    have hmb : m ≤ 30000 := by omega
    have HM := Lib.hid hm
    clear hm
    by_cases hlt : k < l.length
    · obtain ⟨g, off, e, hg, he⟩ := HR.out.elem Ct.row_length (by omega) (k := k) hlt
      subst e
      have hbc := bcell (Below.mono (B := w.heap.size) hb (Nat.le_refl _))
      have e0 := (hbc.1 _ _ hg).trans (he 0 _ rfl)
      have e1 := (hbc.1 _ _ hg).trans (he 1 _ rfl)
      rw [Nat.add_zero] at e0
      have hfy := HF.out _ (List.getElem_mem hlt)
      obtain ⟨hr0, hr1, hr2⟩ := right_at HQ.out hlt
      have hsn : (l.take (k + 1)).flatMap ctB = (l.take k).flatMap ctB ++ ctB l[k] := by rw [← take_snoc hlt, List.flatMap_append, List.flatMap_cons, List.flatMap_nil, List.append_nil]
      generalize l[k] = y at *
      obtain ⟨yb, yn⟩ := y
      obtain ⟨z, rfl⟩ := Int.eq_ofNat_of_zero_le (show 0 ≤ yn by simp at hr1; omega)
      simp only at hfy hr1 hr2
      clear he hbc hr0
      have hctb : ctB ⟨yb, (z : Int)⟩ = putN yb 4 ++ putN z 2 := by simp [ctB]
      rw [hctb, ← List.append_assoc] at hsn
      have HB := Lib.hid hb
      have HW := Lib.hid hown
      have HS := Lib.hid hsn
      clear hb hown hsn hctb
      go_upto_region 7 with fail
      obtain ⟨hy, hb2⟩ := one_at wr 96 [.int .u32 (yb : Int), .int .i64 (z : Int)]
      replace HW := Lib.hid (HW.out.below hb2)
      replace HB := Lib.hid (chain HB.out hb2)
      have hsz' := Nat.le_trans hsz hb2.size
      clear hb2 e0 e1
      generalize World.alloc _ _ = w2 at *
      generalize wr.heap.size = gy at *
      obtain ⟨⟨y0, y1⟩, _⟩ := at2 hy
      have hp := put_any A1 m c1 _ yb 4 w2 HW.out.rd (by omega) (by omega) (by omega) (by omega)
      simp only [Int.cast_ofNat_Int] at hp
      have HP := Lib.hid hp
      clear hp
      go_upto_region 8 with (((with_reducible refine calls_id ?_); refine HP.out.mono ?_; rintro r w4 ⟨A4, c4, rfl, hown, hb4⟩))
      replace hy := hy.below hb4
      have hsz4 := Nat.le_trans hsz' hb4.size
      replace HB := Lib.hid (chain HB.out hb4)
      clear hb4 HP y0 y1 HW
      obtain ⟨⟨y0, y1⟩, _⟩ := at2 hy
      have hp := put_any A4 (m + 4) c4 _ z 2 w4 hown.rd (by omega) (by omega) (by omega) (by omega)
      simp only [Int.cast_ofNat_Int] at hp
      have HP := Lib.hid hp
      clear hp hown
      go_wp2_with (((with_reducible refine calls_id ?_); refine HP.out.mono ?_; rintro r w5 ⟨A5, c5, rfl, hown, hb5⟩); have HB := Lib.hid (chain HB.out hb5))
      have hown := hown.lower (base' := w.heap.size) hsz4
      rw [List.append_assoc, List.append_assoc, ← List.append_assoc (List.flatMap _ _), ← HS.out] at hown
      have HW := Lib.hid hown
      clear hown HP y0 y1 hy
      go_roundw
      case rel => exact ⟨k + 1, m + 4 + 2, A5, c5, by go_num, rfl, by omega, by have := HM.out; omega, HW.out, HB.out⟩
      case measure => simp [intOf]; omega
    · obtain rfl : k = l.length := by omega
      rw [List.take_length] at hown
      have hcv := conv_str hown.rd
      have HB := Lib.hid hb
      clear hb hown
      go_wp2_with fail
      go_ret2
      exact ⟨rfl, HB.out⟩
end Go.Proofs.Ytcepknjcgknidaa
