
/- Chapter 17: where a block's count stands, or would. -/
import Derived.Test.YtcepknjcgknidaaMay17
namespace Go.Proofs.Ytcepknjcgknidaa
set_option linter.unusedVariables false
set_option linter.unusedSimpArgs false
open Go.RowKit
def cmp17 (a b : Nat) : Int := if a < b then -1 else if b < a then 1 else 0
theorem isnan_any (a : Nat) (w : World) : Calls Try.prog 78 #[.int .u32 (a : Int)] w fun x w' => x = .returned (.bool false) ∧ w = w' := by
  go_enter Try.func78, Try.ntmps78
  go_wp2_with fail
  go_ret
  exact ⟨by simp, rfl⟩
theorem compare_any (a b : Nat) (w : World) : Calls Try.prog 75 #[.int .u32 (a : Int), .int .u32 (b : Int)] w fun x w' => x = .returned (.int .i64 (cmp17 a b)) ∧ w = w' := by
  rcases Nat.lt_trichotomy a b with h | h | h
  · rw [show cmp17 a b = -1 from by unfold cmp17; rw [if_pos h]]
    go_enter Try.func75, Try.ntmps75
    go_wp2_with fail
    refine (isnan_any a _).mono ?_
    rintro x w2 ⟨rfl, rfl⟩
    go_wp2_with fail
    refine (isnan_any b _).mono ?_
    rintro x w2 ⟨rfl, rfl⟩
    go_wp2_with fail
    go_ret
    exact ⟨rfl, rfl⟩
  · subst h
    rw [show cmp17 a a = 0 from by unfold cmp17; rw [if_neg (by omega), if_neg (by omega)]]
    go_enter Try.func75, Try.ntmps75
    go_wp2_with fail
    refine (isnan_any a _).mono ?_
    rintro x w2 ⟨rfl, rfl⟩
    go_wp2_with fail
    refine (isnan_any a _).mono ?_
    rintro x w2 ⟨rfl, rfl⟩
    go_wp2_with fail
    go_ret
    exact ⟨rfl, rfl⟩
  · have h2 : ¬ a < b := by omega
    rw [show cmp17 a b = 1 from by unfold cmp17; rw [if_neg h2, if_pos h]]
    go_enter Try.func75, Try.ntmps75
    go_wp2_with fail
    refine (isnan_any a _).mono ?_
    rintro x w2 ⟨rfl, rfl⟩
    go_wp2_with fail
    refine (isnan_any b _).mono ?_
    rintro x w2 ⟨rfl, rfl⟩
    go_wp2_with fail
    go_ret
    exact ⟨rfl, rfl⟩
theorem findc_any (y : Ct) (x : Nat) (w : World) : Calls Try.prog 74 #[.agg #[.int .u32 (y.b : Int), .int .i64 y.n], .int .u32 (x : Int)] w fun r w' => r = .returned (.int .i64 (cmp17 y.b x)) ∧ Below w.heap.size w w' := by
  obtain ⟨h0, hb⟩ := one_at w 96 [.int .u32 (y.b : Int), .int .i64 y.n]
  have hc := fun w => compare_any y.b x w
  generalize cmp17 y.b x = cc at *
  go_enter Try.func74, Try.ntmps74
  go_upto_region 1 with fail
  obtain ⟨⟨x0, x1⟩, _⟩ := at2 h0
  go_wp2_with fail
  refine (hc _).mono ?_
  rintro r w2 ⟨rfl, rfl⟩
  go_wp2_with fail
  go_ret
  exact ⟨rfl, hb⟩
def hit17 (l : List Ct) (x k : Nat) : Bool := decide (k < l.length ∧ (l.getD k default).b = x)
def Low (l : List Ct) (x k : Nat) : Prop := k ≤ l.length ∧ (∀ t, t < k → (l.getD t default).b < x) ∧ (∀ t, k ≤ t → t < l.length → x ≤ (l.getD t default).b)
theorem asc_of_right {l : List Ct} (h : right17 l = true) : ∀ i j, i < j → j < l.length → (l.getD i default).b < (l.getD j default).b := by
  have hh := (of_decide_eq_true h).1
  intro i j hij
  induction j with
  | zero => omega
  | succ j ih =>
    intro hj
    have h1 := (hh (j + 1) hj).2.2.2 (by omega)
    rw [show j + 1 - 1 = j by omega] at h1
    by_cases he : i = j
    · subst he; exact h1
    · exact Nat.lt_trans (ih (by omega) (by omega)) h1
set_option maxRecDepth 100000 in
set_option maxHeartbeats 4000000 in
theorem bsf_any (A : Option Addr) (n c : Nat) (l : List Ct) (x : Nat) (w : World) (hr : RdC w w.heap.size A n c l) (ha : right17 l = true) (hn : n ≤ 1000000) :
    Calls Try.prog 73 #[.slice A n c, .int .u32 (x : Int), .func (.func 74) #[] #[]] w fun r w' =>
      ∃ k : Nat, Low l x k ∧ r = .returned (.tuple #[.int .i64 (k : Int), .bool (hit17 l x k)]) ∧ Below w.heap.size w w' := by
  have hl := RdC.len hr
  have hmax := hr.max
  have hle := hr.le
  unfold maxLen at hmax
  subst hl
  have HR := Lib.hid hr
  have HA := Lib.hid (asc_of_right ha)
  clear hr ha
  go_enter Try.func73, Try.ntmps73
  go_wp2_with fail
  go_loopw [9, 10] (fun a b wr => ∃ i j : Nat, a = .int .i64 (i : Int) ∧ b = .int .i64 (j : Int) ∧ i ≤ j ∧ j ≤ l.length ∧ (∀ t, t < i → (l.getD t default).b < x) ∧ (∀ t, j ≤ t → t < l.length → x ≤ (l.getD t default).b) ∧ Below w.heap.size w wr) (fun a b _ => (intOf b).toNat - (intOf a).toNat)
  case atStart => exact ⟨0, l.length, rfl, rfl, Nat.zero_le _, Nat.le_refl _, by intro t ht; omega, by intro t h1 h2; omega, Below.refl _ _⟩
  case round =>
    obtain ⟨i, j, rfl, rfl, hij, hj, h1, h2, hb⟩ := hrel
    have H1 := Lib.hid h1
    have H2 := Lib.hid h2
    clear h1 h2
    by_cases hlt : i < j
    · obtain ⟨h, hh⟩ : ∃ h, h = (i + j) / 2 := ⟨_, rfl⟩
      have hhl : h < l.length := by omega
      obtain ⟨g, off, e, hg, he⟩ := HR.out.elem Ct.row_length (by omega) (k := h) hhl
      subst e
      have hbc := bcell (Below.mono (B := w.heap.size) hb (Nat.le_refl _))
      have e0 := (hbc.1 _ _ hg).trans (he 0 _ rfl)
      have e1 := (hbc.1 _ _ hg).trans (he 1 _ rfl)
      rw [Nat.add_zero] at e0
      have hxk := getD_at hhl
      generalize l[h] = y at *
      clear he hbc
      have HB := Lib.hid hb
      have HC := Lib.hid (fun w => findc_any y x w)
      have HXK := Lib.hid hxk
      clear hb hxk
      have hsum : IntKind.i64.wrap ((i : Int) + (j : Int)) = (i : Int) + (j : Int) := IntWalk.i64_in _ (by omega)
      have hu : IntKind.u64.wrap ((i : Int) + (j : Int)) = (i : Int) + (j : Int) := by rw [IntKind.wrap_u64]; omega
      go_upto_region 5 with fail
      rw [show ((i : Int) + (j : Int)) / 2 = (h : Int) by omega]
      have hih : i ≤ h := by omega
      have hhj : h < j := by omega
      clear hh hsum hu
      by_cases h3 : y.b < x
      · rw [show cmp17 y.b x = -1 from if_pos h3] at HC
        go_wp2_with fail
        refine (HC.out _).mono ?_
        rintro r w2 ⟨rfl, hb2⟩
        have hB := chain HB.out hb2
        clear hb2 e0 e1
        go_wp2_with fail
        go_roundw
        case rel => exact ⟨h + 1, j, by go_num, rfl, by omega, hj, fun t ht => (by
          by_cases hth : t = h
          · subst hth; rw [HXK.out]; exact h3
          · have := HA.out t h (by omega) hhl
            rw [HXK.out] at this
            omega), H2.out, hB⟩
        case measure => simp [intOf]; omega
      · obtain ⟨cc, hcc, hc0⟩ : ∃ cc, cmp17 y.b x = cc ∧ decide (cc < 0) = false := ⟨_, rfl, by unfold cmp17; rw [if_neg h3]; split <;> rfl⟩
        rw [hcc] at HC
        go_wp2_with fail
        refine (HC.out _).mono ?_
        rintro r w2 ⟨rfl, hb2⟩
        have hB := chain HB.out hb2
        clear hb2 e0 e1
        go_wp2_with fail
        go_roundw
        case rel => exact ⟨i, h, rfl, rfl, by omega, by omega, H1.out, fun t h5 h6 => (by
          by_cases hth : t = h
          · subst hth; rw [HXK.out]; omega
          · have := HA.out h t (by omega) h6
            rw [HXK.out] at this
            omega), hB⟩
        case measure => simp [intOf]; omega
    · obtain rfl : i = j := by omega
      have HL := Lib.hid (show Low l x i from ⟨hj, H1.out, H2.out⟩)
      by_cases hin : i < l.length
      · obtain ⟨g, off, e, hg, he⟩ := HR.out.elem Ct.row_length (by omega) (k := i) hin
        subst e
        have hbc := bcell (Below.mono (B := w.heap.size) hb (Nat.le_refl _))
        have e0 := (hbc.1 _ _ hg).trans (he 0 _ rfl)
        have e1 := (hbc.1 _ _ hg).trans (he 1 _ rfl)
        rw [Nat.add_zero] at e0
        have hxk := getD_at hin
        generalize l[i] = y at *
        clear he hbc
        have HB := Lib.hid hb
        have HC := Lib.hid (fun w => findc_any y x w)
        clear hb
        have hq : (cmp17 y.b x == 0) = decide (i < l.length ∧ (l.getD i default).b = x) := by
          rw [hxk]
          unfold cmp17
          by_cases q1 : y.b < x
          · rw [if_pos q1, decide_eq_false (by omega)]; rfl
          · rw [if_neg q1]
            by_cases q2 : x < y.b
            · rw [if_pos q2, decide_eq_false (by omega)]; rfl
            · rw [if_neg q2, decide_eq_true ⟨hin, by omega⟩]; rfl
        have HQ := Lib.hid hq
        clear hq hxk
        generalize cmp17 y.b x = cc at *
        go_wp2_with fail
        refine (HC.out _).mono ?_
        rintro r w2 ⟨rfl, hb2⟩
        have hB := chain HB.out hb2
        clear hb2 e0 e1
        go_wp2_with fail
        go_ret2
        exact ⟨i, HL.out, by unfold hit17; rw [← HQ.out]; simp, hB⟩
      · have hd : decide (i < l.length ∧ (l.getD i default).b = x) = false := decide_eq_false (by omega)
        have HD := Lib.hid hd
        have HB := Lib.hid hb
        clear hd hb
        go_wp2_with fail
        go_ret2
        exact ⟨i, HL.out, by unfold hit17; rw [HD.out]; rfl, HB.out⟩
end Go.Proofs.Ytcepknjcgknidaa
