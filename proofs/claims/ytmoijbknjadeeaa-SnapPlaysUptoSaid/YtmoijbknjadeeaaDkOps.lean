
/- Chapter 6: write, there, Lost, Sure, Arm, Read. -/
import Derived.Test.YtmoijbknjadeeaaDk
namespace Go.Proofs.Ytmoijbknjadeeaa
set_option linter.unusedVariables false
set_option linter.unusedSimpArgs false
open Go.RowKit
structure Wr where
  code : Int
  now : Bool
  lost : Bool
  left : Int
/-- is a write done? -/
def wrP (lost armed : Bool) (left : Int) : Wr :=
  if lost then ⟨12, false, true, left⟩
  else if armed && decide (left = 0) then ⟨12, true, true, left⟩
  else if armed then ⟨0, false, false, left - 1⟩
  else ⟨0, false, false, left⟩
section
variable {g b N : Nat} {l : List Fi} {lost armed : Bool} {left : Int}
set_option maxRecDepth 100000 in
set_option maxHeartbeats 1000000 in
theorem write_any (w : World) (h : IsDk w g b N l lost armed left) :
    Calls Try.prog 51 #[.pointer (some ⟨g, 0, none⟩)] w fun x w' => x = .returned (.tuple #[.int .i64 (wrP lost armed left).code, .bool (wrP lost armed left).now]) ∧ IsDk w' g b N l (wrP lost armed left).lost armed (wrP lost armed left).left ∧ w.grownBy w' (some g) := by
  obtain ⟨⟨x0, x1, x2, x3⟩, xf0, xf1, xf2, xf3⟩ := at4 h.at_
  have hl := h.left0
  have H := Lib.hid h
  clear h
  unfold wrP
  cases lost with
  | true =>
    go_enter Try.func51, Try.ntmps51
    go_wp2_with fail
    exact bodyPost_ret (v := .tuple #[.int .i64 12, .bool false]) (by simp [results, Try.results51, go_sem]) rfl ⟨rfl, H.out, World.grownBy.refl _ _⟩
  | false =>
    cases armed with
    | false =>
      go_enter Try.func51, Try.ntmps51
      go_wp2_with fail
      exact bodyPost_ret (v := .tuple #[.int .i64 0, .bool false]) (by simp [results, Try.results51, go_sem]) rfl ⟨rfl, H.out, World.grownBy.refl _ _⟩
    | true =>
      by_cases h0 : left = 0
      · subst h0
        have hS := grown_set w g 1 (.bool true)
        have ha := H.out.at_.set 1 (.bool true)
        dsimp only [List.set] at ha
        have ht := H.out.turn hS ha (by omega)
        have HT := Lib.hid ht
        have HS := Lib.hid hS
        clear ht hS ha
        go_enter Try.func51, Try.ntmps51
        go_wp2_with fail
        exact bodyPost_ret (v := .tuple #[.int .i64 12, .bool true]) (by simp [results, Try.results51, go_sem]) rfl ⟨rfl, HT.out, HS.out⟩
      · have hb0 : (left == 0) = false := beq_eq_false_iff_ne.mpr h0
        have hw : IntKind.i64.wrap (left - 1) = left - 1 := IntWalk.i64_in _ (by omega)
        have hS := grown_set w g 3 (.int .i64 (left - 1))
        have ha := H.out.at_.set 3 (.int .i64 (left - 1))
        dsimp only [List.set] at ha
        have ht := H.out.turn hS ha (by omega)
        have HT := Lib.hid ht
        have HS := Lib.hid hS
        clear ht hS ha
        go_enter Try.func51, Try.ntmps51
        go_wp2_with fail
        exact bodyPost_ret (v := .tuple #[.int .i64 0, .bool false]) (by simp [results, Try.results51, go_sem]) rfl ⟨by simp [h0], by simpa [h0] using HT.out, HS.out⟩
theorem there_nil (k : ByteArray) (w : World) : Calls Try.prog 53 #[.pointer none, .string k] w fun x w' => x = .returned (.int .i64 2) ∧ w = w' := by
  go_enter Try.func53, Try.ntmps53
  go_wp2_with fail
  go_ret
  exact ⟨rfl, rfl⟩
set_option maxRecDepth 100000 in
set_option maxHeartbeats 1000000 in
theorem there_any (k : ByteArray) (hk : k.size ≤ maxLen) (w : World) (h : IsDk w g b N l lost armed left) :
    Calls Try.prog 53 #[.pointer (some ⟨g, 0, none⟩), .string k] w fun x w' => x = .returned (.int .i64 (if (findF l k).isSome then 0 else 6)) ∧ Below w.heap.size w w' := by
  obtain ⟨⟨x0, x1, x2, x3⟩, xf⟩ := at4 h.at_
  have hlk := h.mp.look hk
  generalize getF l k = y at *
  generalize (findF l k).isSome = yo at *
  clear h
  obtain ⟨yk, yb, yA, yn, yc, ys⟩ := y
  unfold Fi.val at hlk
  simp only at hlk
  generalize Fi.addr _ = A at *
  have hb := (one_at w 94 [.slice A yn yc, .int .i64 ys]).2
  cases yo with
  | true =>
    go_enter Try.func53, Try.ntmps53
    go_wp2_with fail
    go_ret
    exact ⟨rfl, hb⟩
  | false =>
    go_enter Try.func53, Try.ntmps53
    go_wp2_with fail
    go_ret
    exact ⟨rfl, hb⟩
theorem lost_any (w : World) (h : IsDk w g b N l lost armed left) : Calls Try.prog 25 #[.pointer (some ⟨g, 0, none⟩)] w fun x w' => x = .returned (.bool lost) ∧ w = w' := by
  obtain ⟨⟨x0, x1, x2, x3⟩, xf⟩ := at4 h.at_
  clear h
  go_enter Try.func25, Try.ntmps25
  go_wp2_with fail
  go_ret
  exact ⟨rfl, rfl⟩
theorem lost_nil (w : World) : Calls Try.prog 25 #[.pointer none] w fun x w' => x = .returned (.bool false) ∧ w = w' := by
  go_enter Try.func25, Try.ntmps25
  go_wp2_with fail
  go_ret
  exact ⟨rfl, rfl⟩
set_option maxRecDepth 100000 in
theorem sure_any (k : ByteArray) (hk : k.size ≤ maxLen) (w : World) (h : IsDk w g b N l lost armed left) : Calls Try.prog 27 #[.pointer (some ⟨g, 0, none⟩), .string k] w fun x w' => x = .returned (.int .i64 (getF l k).s) ∧ w = w' := by
  obtain ⟨⟨x0, x1, x2, x3⟩, xf⟩ := at4 h.at_
  have hlk := h.mp.look1 hk
  generalize getF l k = y at *
  obtain ⟨yk, yb, yA, yn, yc, ys⟩ := y
  unfold Fi.val at hlk
  simp only at hlk ⊢
  clear h
  generalize Fi.addr _ = A at *
  have hf1 := fun w => field1 A yn yc ys w
  go_enter Try.func27, Try.ntmps27
  go_wp2_with fail
  go_ret
  exact ⟨rfl, rfl⟩
theorem sure_nil (k : ByteArray) (w : World) : Calls Try.prog 27 #[.pointer none, .string k] w fun x w' => x = .returned (.int .i64 0) ∧ w = w' := by
  go_enter Try.func27, Try.ntmps27
  go_wp2_with fail
  go_ret
  exact ⟨rfl, rfl⟩
theorem arm_nil (n : Int) (w : World) : Calls Try.prog 15 #[.pointer none, .int .i64 n] w fun x w' => x = .returned (.tuple #[]) ∧ w = w' := by
  go_enter Try.func15, Try.ntmps15
  go_wp2_with fail
  go_end0
  exact ⟨rfl, rfl⟩
set_option maxRecDepth 100000 in
set_option maxHeartbeats 1000000 in
theorem arm_any (n : Int) (hn : n < 9223372036854775808) (w : World) (h : IsDk w g b N l lost armed left) :
    Calls Try.prog 15 #[.pointer (some ⟨g, 0, none⟩), .int .i64 n] w fun x w' => x = .returned (.tuple #[]) ∧ IsDk w' g b N l lost true (if n < 0 then 0 else n) ∧ w.grownBy w' (some g) := by
  obtain ⟨⟨x0, x1, x2, x3⟩, xf0, xf1, xf2, xf3⟩ := at4 h.at_
  obtain ⟨m, hm⟩ : ∃ m, (if n < 0 then 0 else n) = m := ⟨_, rfl⟩
  have hm0 : 0 ≤ m ∧ m < 9223372036854775808 := by split at hm <;> omega
  have hmax : max n 0 = m := by rw [← hm]; split <;> omega
  rw [hm]
  obtain ⟨hat, hG⟩ := At.many [(2, .bool true), (3, .int .i64 m)] h.at_
  dsimp only [setMany, setL, List.set] at hat hG
  have ht := h.turn hG hat hm0
  have HT := Lib.hid ht
  have HG := Lib.hid hG
  clear ht hG hat h hm
  go_enter Try.func15, Try.ntmps15
  go_wp2_with fail
  go_end0
  exact ⟨rfl, HT.out, HG.out⟩
/-- what is read -/
def rdCode (l : List Fi) (lost : Bool) (k : ByteArray) : Int := if (findF l k).isSome then (if lost then 12 else 0) else 6
def rdBytes (l : List Fi) (lost : Bool) (k : ByteArray) : List UInt8 := if (findF l k).isSome && !lost then (getF l k).b else []
theorem dread_nil (k : ByteArray) (w : World) : Calls Try.prog 17 #[.pointer none, .string k] w fun x w' => x = .returned (.tuple #[.slice none 0 0, .int .i64 2]) ∧ w = w' := by
  have HT := there_nil k w
  go_enter Try.func17, Try.ntmps17
  go_wp2_with (((with_reducible refine (HT).mono ?_); rintro z v ⟨rfl, rfl⟩))
  exact bodyPost_ret (v := .tuple #[.slice none 0 0, .int .i64 2]) (by simp [results, Try.results17, go_sem]) rfl ⟨rfl, rfl⟩
set_option maxRecDepth 100000 in
set_option maxHeartbeats 1000000 in
theorem dread_any (k : ByteArray) (hk : k.size ≤ maxLen) (w : World) (h : IsDk w g b N l lost armed left) (hsz : ∀ x ∈ l, x.b.length ≤ 1099511627776) :
    Calls Try.prog 17 #[.pointer (some ⟨g, 0, none⟩), .string k] w fun x w' => ∃ A n c, x = .returned (.tuple #[.slice A n c, .int .i64 (rdCode l lost k)]) ∧ OwnB w' w.heap.size A n c (rdBytes l lost k) ∧ Below w.heap.size w w' := by
  have HT := there_any k hk w h
  unfold rdCode rdBytes
  cases hf : (findF l k).isSome with
  | false =>
    rw [hf] at HT
    simp only [Bool.false_eq_true, if_false] at HT
    clear h
    go_enter Try.func17, Try.ntmps17
    go_wp2_with (((with_reducible refine (HT).mono ?_); rintro z w1 ⟨rfl, hb1⟩))
    exact bodyPost_ret (v := .tuple #[.slice none 0 0, .int .i64 6]) (by simp [results, Try.results17, go_sem]) rfl ⟨none, 0, 0, rfl, OwnB.nil, hb1⟩
  | true =>
    rw [hf] at HT
    simp only [if_true] at HT
    have hmem := h.find hf
    have hs2 := hsz _ hmem.1
    clear hsz hmem
    obtain ⟨y, hY⟩ : ∃ y, getF l k = y := ⟨_, rfl⟩
    rw [hY] at hs2 ⊢
    have HY := Lib.hid hY
    clear hY
    obtain ⟨yk, yb, yA, yn, yc, ys⟩ := y
    simp only at hs2 ⊢
    go_enter Try.func17, Try.ntmps17
    go_upto_region 4 with (((with_reducible refine (HT).mono ?_); rintro z w1 ⟨rfl, hb1⟩))
    replace h := h.step hb1
    obtain ⟨⟨x0, x1, x2, x3⟩, xf⟩ := at4 h.at_
    have hg := (h.get k).1
    have hlk := h.mp.look1 hk
    rw [HY.out] at hg hlk
    unfold Fi.val at hlk
    simp only at hlk hg
    generalize Fi.addr _ = A at *
    have hyn := hg.length
    have hf0 := fun w => field0 A yn yc ys w
    have HCL := clone_any A yn yc yb w1 hg.rd (by omega)
    clear h HT
    cases lost with
    | true =>
      go_wp2_with fail
      exact bodyPost_ret (v := .tuple #[.slice none 0 0, .int .i64 12]) (by simp [results, Try.results17, go_sem]) rfl ⟨none, 0, 0, rfl, OwnB.nil, hb1⟩
    | false =>
      go_wp2_with (((with_reducible refine (HCL).mono ?_); rintro z w2 ⟨A2, c2, rfl, hown, hb2⟩))
      exact bodyPost_ret (v := .tuple #[.slice A2 yn c2, .int .i64 0]) (by simp [results, Try.results17, go_sem]) rfl ⟨A2, yn, c2, rfl, own_lower (show World.ownsRow _ _ _ _ _ _ _ from hown) hb1.size, chain hb1 hb2⟩
end
end Go.Proofs.Ytmoijbknjadeeaa
