
/- Chapter 6: the document's Append, Sync, Remove, Cut, Rename. -/
import Derived.Test.YtmoijbknjadeeaaRfPut
import Derived.Test.YtmoijbknjadeeaaDkSync
namespace Go.Proofs.Ytmoijbknjadeeaa
set_option linter.unusedVariables false
set_option linter.unusedSimpArgs false
open Go.RowKit
def rl (armed : Bool) (left : Int) : Int := if armed then left else -1
theorem rw_wr (lost armed : Bool) (left : Int) (hl : 0 ≤ left) : ∃ how, rwP lost (rl armed left) = ⟨how, (wrP lost armed left).lost, rl armed (wrP lost armed left).left⟩ ∧ ((how = 0 ∧ (wrP lost armed left).code = 0) ∨ (0 < how ∧ (wrP lost armed left).code = 12)) ∧ (how = 1 ↔ lost = true) := by
  unfold rwP wrP rl
  cases lost
  · cases armed
    · exact ⟨0, rfl, .inl ⟨rfl, rfl⟩, by simp⟩
    · by_cases h0 : left = 0
      · subst h0; exact ⟨2, rfl, .inr ⟨by omega, rfl⟩, by simp⟩
      · exact ⟨0, by simp [h0]; omega, .inl ⟨rfl, by simp [h0]⟩, by simp⟩
  · exact ⟨1, rfl, .inr ⟨by omega, rfl⟩, by simp⟩
theorem rl_bounds {armed : Bool} {left : Int} (h : 0 ≤ left ∧ left < 9223372036854775808) : -1 ≤ rl armed left ∧ rl armed left < 9223372036854775808 := by
  unfold rl
  split <;> omega
section
variable {w w' : World} {g : Nat} {l : List Fi} {lost armed : Bool} {left : Int}
theorem rwr_any (w : World) (h : IsRf w g l lost (rl armed left)) (hl : 0 ≤ left ∧ left < 9223372036854775808) :
    ∃ how : Int, ((how = 0 ∧ (wrP lost armed left).code = 0) ∨ (0 < how ∧ (wrP lost armed left).code = 12)) ∧ (how = 1 ↔ lost = true) ∧ ∀ v, IsRf v g l lost (rl armed left) →
    Calls Try.prog 79 #[.pointer (some ⟨g, 0, none⟩)] v fun x w' => x = .returned (.int .i64 how) ∧ IsRf w' g l (wrP lost armed left).lost (rl armed (wrP lost armed left).left) ∧ v.grownBy w' (some g) := by
  obtain ⟨how, e, h1, h2⟩ := rw_wr lost armed left hl.1
  refine ⟨how, h1, h2, fun v hv => ?_⟩
  have := rwrite_any v hv (rl_bounds hl)
  rw [e] at this
  exact this
theorem ext_take (l : List UInt8) (m : Nat) : (⟨l.toArray⟩ : ByteArray).extract 0 m = ⟨(l.take m).toArray⟩ := by
  apply ByteArray.ext
  rw [ByteArray.data_extract]
  simp
theorem gmod {w w' : World} {g : Nat} (h : w.grownBy w' (some g)) : Mod (fun i _ => i = g) w w' := (grown_mod h).mono (fun i o _ _ e => (Option.some.inj e).symm)
/-- what the document does with a file that is there -/
def RgR (w w' : World) (g : Nat) (l : List Fi) (armed : Bool) (q : Wr) (NEW : List Fi) (x : Ending) : Prop :=
  x = .returned (.int .i64 q.code) ∧ Mod (fun i _ => i = g) w w' ∧ IsRf w' g (if q.code = 0 then NEW else l) q.lost (rl armed q.left)
set_option maxRecDepth 100000 in
theorem rsync_no (k : ByteArray) (w : World) (h : IsRf w g l lost left) (hf : (findF l k).isSome = false) :
    Calls Try.prog 55 #[.pointer (some ⟨g, 0, none⟩), .string k] w fun x w' => x = .returned (.int .i64 6) ∧ IsRf w' g l lost left ∧ Below w.heap.size w w' := by
  have HF := rFind_any k w h
  unfold foundV at HF
  rw [hf] at HF
  generalize getF l k = y at *
  obtain ⟨yk, yb, yA, yn, yc, ys⟩ := y
  simp only at HF
  go_enter Try.func55, Try.ntmps55
  go_upto_region 2 with (((with_reducible refine (HF).mono ?_); rintro z w1 ⟨rfl, hb1⟩))
  have hb2 := (one_at w1 52 [.string yk, .string ⟨yb.toArray⟩, .int .i64 ys]).2
  have HB := Lib.hid (chain hb1 hb2)
  have H := Lib.hid h
  clear HF hb1 hb2 h
  go_wp2_with fail
  go_ret
  exact ⟨rfl, H.out.step HB.out, HB.out⟩
set_option maxRecDepth 100000 in
theorem rremove_no (k : ByteArray) (w : World) (h : IsRf w g l lost left) (hf : (findF l k).isSome = false) :
    Calls Try.prog 57 #[.pointer (some ⟨g, 0, none⟩), .string k] w fun x w' => x = .returned (.int .i64 6) ∧ IsRf w' g l lost left ∧ Below w.heap.size w w' := by
  have HF := rFind_any k w h
  unfold foundV at HF
  rw [hf] at HF
  generalize getF l k = y at *
  obtain ⟨yk, yb, yA, yn, yc, ys⟩ := y
  simp only at HF
  go_enter Try.func57, Try.ntmps57
  go_upto_region 2 with (((with_reducible refine (HF).mono ?_); rintro z w1 ⟨rfl, hb1⟩))
  have hb2 := (one_at w1 52 [.string yk, .string ⟨yb.toArray⟩, .int .i64 ys]).2
  have HB := Lib.hid (chain hb1 hb2)
  have H := Lib.hid h
  clear HF hb1 hb2 h
  go_wp2_with fail
  go_ret
  exact ⟨rfl, H.out.step HB.out, HB.out⟩
set_option maxRecDepth 100000 in
theorem rcut_no (k : ByteArray) (m : Int) (w : World) (h : IsRf w g l lost left) (hf : (findF l k).isSome = false) :
    Calls Try.prog 58 #[.pointer (some ⟨g, 0, none⟩), .string k, .int .i64 m] w fun x w' => x = .returned (.int .i64 6) ∧ IsRf w' g l lost left ∧ Below w.heap.size w w' := by
  have HF := rFind_any k w h
  unfold foundV at HF
  rw [hf] at HF
  generalize getF l k = y at *
  obtain ⟨yk, yb, yA, yn, yc, ys⟩ := y
  simp only at HF
  go_enter Try.func58, Try.ntmps58
  go_upto_region 2 with (((with_reducible refine (HF).mono ?_); rintro z w1 ⟨rfl, hb1⟩))
  have hb2 := (one_at w1 52 [.string yk, .string ⟨yb.toArray⟩, .int .i64 ys]).2
  have HB := Lib.hid (chain hb1 hb2)
  have H := Lib.hid h
  clear HF hb1 hb2 h
  go_wp2_with fail
  go_ret
  exact ⟨rfl, H.out.step HB.out, HB.out⟩
set_option maxRecDepth 100000 in
theorem rrename_no (k to : ByteArray) (w : World) (h : IsRf w g l lost left) (hf : (findF l k).isSome = false) :
    Calls Try.prog 56 #[.pointer (some ⟨g, 0, none⟩), .string k, .string to] w fun x w' => x = .returned (.int .i64 6) ∧ IsRf w' g l lost left ∧ Below w.heap.size w w' := by
  have HF := rFind_any k w h
  unfold foundV at HF
  rw [hf] at HF
  generalize getF l k = y at *
  obtain ⟨yk, yb, yA, yn, yc, ys⟩ := y
  simp only at HF
  go_enter Try.func56, Try.ntmps56
  go_upto_region 2 with (((with_reducible refine (HF).mono ?_); rintro z w1 ⟨rfl, hb1⟩))
  have hb2 := (one_at w1 52 [.string yk, .string ⟨yb.toArray⟩, .int .i64 ys]).2
  have HB := Lib.hid (chain hb1 hb2)
  have H := Lib.hid h
  clear HF hb1 hb2 h
  go_wp2_with fail
  go_ret
  exact ⟨rfl, H.out.step HB.out, HB.out⟩
set_option maxRecDepth 100000 in
set_option maxHeartbeats 2000000 in
theorem rsync_go (k : ByteArray) (w : World) (h : IsRf w g l lost (rl armed left)) (hl : 0 ≤ left ∧ left < 9223372036854775808) (hf : (findF l k).isSome = true) (hn : l.length ≤ 1000000) :
    Calls Try.prog 55 #[.pointer (some ⟨g, 0, none⟩), .string k] w fun x w' => RgR w w' g l armed (wrP lost armed left) (applyF ⟨k, (getF l k).b, none, 0, 0, ((getF l k).b.length : Int)⟩ false l) x := by
  have HF := rFind_any k w h
  unfold foundV at HF
  rw [hf] at HF
  obtain ⟨how, hhow, hh1, HW⟩ := rwr_any w h hl
  obtain ⟨q, hq⟩ : ∃ q, wrP lost armed left = q := ⟨_, rfl⟩
  rw [hq] at hhow HW ⊢
  clear hq hh1
  obtain ⟨code, now, lost', left'⟩ := q
  simp only at hhow HW
  obtain ⟨y, hy⟩ : ∃ y, getF l k = y := ⟨_, rfl⟩
  rw [hy] at HF
  try rw [hy]
  have HY := Lib.hid hy
  clear hy
  obtain ⟨yk, yb, yA, yn, yc, ys⟩ := y
  simp only at HF
  try simp only
  have HW := Lib.hid HW
  have H := Lib.hid h
  clear h
  go_enter Try.func55, Try.ntmps55
  go_upto_region 2 with (((with_reducible refine (HF).mono ?_); rintro z w1 ⟨rfl, hb1⟩))
  obtain ⟨h5, hb2⟩ := one_at w1 52 [.string yk, .string ⟨yb.toArray⟩, .int .i64 ys]
  have hm2 := (Mod.refl (fun i _ => i = g) w).below (chain hb1 hb2)
  have h := (H.out.step hb1).step hb2
  have hgl := h.lt
  have hgw1 := (H.out.step hb1).lt
  clear HF hb1 hb2 H
  generalize World.alloc w1 _ = w2 at *
  generalize w1.heap.size = g5 at *
  have HW := HW.out w2 h
  obtain ⟨⟨y0, y1, y2⟩, yf⟩ := at3 h5
  rcases hhow with ⟨rfl, rfl⟩ | ⟨hpos, rfl⟩
  rotate_left
  ·
    have hd : decide (0 < how) = true := decide_eq_true hpos
    go_wp2_with (((with_reducible refine (HW).mono ?_); rintro z w3 ⟨rfl, h3, hG3⟩))
    go_ret
    exact ⟨rfl, hm2.grown hG3 (fun i o _ _ e => (Option.some.inj e).symm), by rw [if_neg (show ¬ (12 : Int) = 0 by decide)]; exact h3⟩
  ·
    go_upto_region 6 with (((with_reducible refine (HW).mono ?_); rintro z w3 ⟨rfl, h3, hG3⟩))
    replace h5 := h5.only hG3 (by omega)
    have hm3 := hm2.grown hG3 (fun i o _ _ e => (Option.some.inj e).symm)
    clear HW hG3 hm2 y0 y1 y2 yf h
    obtain ⟨⟨y0, y1, y2⟩, yf⟩ := at3 h5
    have HP := rput_any ⟨k, yb, none, 0, 0, (yb.length : Int)⟩ w3 h3 hn
    simp only at HP
    go_wp2_with (((with_reducible refine calls_id ?_); refine HP.mono ?_; rintro z w4 ⟨rfl, h4, hm4⟩))
    go_ret
    exact ⟨rfl, hm3.trans hm4, by rw [if_pos rfl]; exact h4⟩
set_option maxRecDepth 100000 in
set_option maxHeartbeats 2000000 in
theorem rcut_arg (k : ByteArray) (m : Int) (w : World) (h : IsRf w g l lost left) (hf : (findF l k).isSome = true) (hm : m < 0 ∨ ((getF l k).b.length : Int) < m) :
    Calls Try.prog 58 #[.pointer (some ⟨g, 0, none⟩), .string k, .int .i64 m] w fun x w' => x = .returned (.int .i64 1) ∧ IsRf w' g l lost left ∧ Below w.heap.size w w' := by
  have HF := rFind_any k w h
  unfold foundV at HF
  rw [hf] at HF
  generalize getF l k = y at *
  obtain ⟨yk, yb, yA, yn, yc, ys⟩ := y
  simp only at HF hm
  go_enter Try.func58, Try.ntmps58
  go_upto_region 2 with (((with_reducible refine (HF).mono ?_); rintro z w1 ⟨rfl, hb1⟩))
  obtain ⟨h5, hb2⟩ := one_at w1 52 [.string yk, .string ⟨yb.toArray⟩, .int .i64 ys]
  have HB := Lib.hid (chain hb1 hb2)
  have H := Lib.hid h
  clear HF hb1 hb2 h
  generalize World.alloc w1 _ = w2 at *
  generalize w1.heap.size = g5 at *
  obtain ⟨⟨y0, y1, y2⟩, yf⟩ := at3 h5
  by_cases h0 : m < 0
  ·
    have hd0 : decide (m < 0) = true := decide_eq_true h0
    clear hm
    go_wp2_with fail
    go_ret
    exact ⟨rfl, H.out.step HB.out, HB.out⟩
  ·
    have hd0 : decide (m < 0) = false := decide_eq_false h0
    have hm1 : (yb.length : Int) < m := by omega
    have hd1 : decide ((yb.length : Int) < m) = true := decide_eq_true hm1
    clear hm
    go_wp2_with fail
    go_ret
    exact ⟨rfl, H.out.step HB.out, HB.out⟩
set_option maxRecDepth 100000 in
set_option maxHeartbeats 2000000 in
theorem rcut_go (k : ByteArray) (m : Nat) (w : World) (h : IsRf w g l lost (rl armed left)) (hl : 0 ≤ left ∧ left < 9223372036854775808) (hf : (findF l k).isSome = true) (hn : l.length ≤ 1000000) (hm : m ≤ (getF l k).b.length) (hsz : (getF l k).b.length ≤ 100000000) :
    Calls Try.prog 58 #[.pointer (some ⟨g, 0, none⟩), .string k, .int .i64 (m : Int)] w fun x w' => RgR w w' g l armed (wrP lost armed left) (applyF ⟨k, (getF l k).b.take m, none, 0, 0, (m : Int)⟩ false l) x := by
  have HF := rFind_any k w h
  unfold foundV at HF
  rw [hf] at HF
  obtain ⟨how, hhow, hh1, HW⟩ := rwr_any w h hl
  obtain ⟨q, hq⟩ : ∃ q, wrP lost armed left = q := ⟨_, rfl⟩
  rw [hq] at hhow HW ⊢
  clear hq hh1
  obtain ⟨code, now, lost', left'⟩ := q
  simp only at hhow HW
  obtain ⟨y, hy⟩ : ∃ y, getF l k = y := ⟨_, rfl⟩
  rw [hy] at HF
  try rw [hy]
  have HY := Lib.hid hy
  clear hy
  obtain ⟨yk, yb, yA, yn, yc, ys⟩ := y
  simp only at HF
  try simp only
  have HW := Lib.hid HW
  have H := Lib.hid h
  clear h
  go_enter Try.func58, Try.ntmps58
  go_upto_region 2 with (((with_reducible refine (HF).mono ?_); rintro z w1 ⟨rfl, hb1⟩))
  obtain ⟨h5, hb2⟩ := one_at w1 52 [.string yk, .string ⟨yb.toArray⟩, .int .i64 ys]
  have hm2 := (Mod.refl (fun i _ => i = g) w).below (chain hb1 hb2)
  have h := (H.out.step hb1).step hb2
  have hgl := h.lt
  have hgw1 := (H.out.step hb1).lt
  clear HF hb1 hb2 H
  generalize World.alloc w1 _ = w2 at *
  generalize w1.heap.size = g5 at *
  have HW := HW.out w2 h
  obtain ⟨⟨y0, y1, y2⟩, yf⟩ := at3 h5
  rw [HY.out] at hm hsz
  simp only at hm hsz
  have hd0 : decide ((m : Int) < 0) = false := decide_eq_false (by omega)
  have hd1 : decide ((yb.length : Int) < (m : Int)) = false := decide_eq_false (by omega)
  have hext : (⟨yb.toArray⟩ : ByteArray).extract 0 m = ⟨(yb.take m).toArray⟩ := ext_take yb m
  rcases hhow with ⟨rfl, rfl⟩ | ⟨hpos, rfl⟩
  rotate_left
  ·
    have hd : decide (0 < how) = true := decide_eq_true hpos
    go_wp2_with (((with_reducible refine (HW).mono ?_); rintro z w3 ⟨rfl, h3, hG3⟩))
    go_ret
    exact ⟨rfl, hm2.grown hG3 (fun i o _ _ e => (Option.some.inj e).symm), by rw [if_neg (show ¬ (12 : Int) = 0 by decide)]; exact h3⟩
  ·
    go_upto_region 8 with (((with_reducible refine (HW).mono ?_); rintro z w3 ⟨rfl, h3, hG3⟩))
    replace h5 := h5.only hG3 (by omega)
    have hm3 := hm2.grown hG3 (fun i o _ _ e => (Option.some.inj e).symm)
    clear HW hG3 hm2 y0 y1 y2 yf h
    obtain ⟨⟨y0, y1, y2⟩, yf⟩ := at3 h5
    have HP := rput_any ⟨k, yb.take m, none, 0, 0, (m : Int)⟩ w3 h3 hn
    simp only at HP
    go_wp2_with (((with_reducible refine calls_id ?_); refine HP.mono ?_; rintro z w4 ⟨rfl, h4, hm4⟩))
    go_ret
    exact ⟨rfl, hm3.trans hm4, by rw [if_pos rfl]; exact h4⟩
end
end Go.Proofs.Ytmoijbknjadeeaa
