
/- Chapter 13: records as bytes; a node's seed. -/
import Derived.Test.YtcepknjcgknidaaRef03
import Derived.Test.YtcepknjcgknidaaStage
import Derived.Test.YtcepknjcgknidaaKnow
import Derived.Test.YtcepknjcgknidaaBits
import Derived.Deep.Cut
import Derived.BigQuiet
import Derived.Deep.QuietTactic
namespace Go.Proofs.Ytcepknjcgknidaa
set_option linter.unusedVariables false
set_option linter.unusedSimpArgs false
open Go.RowKit
theorem truth_any (b : Bool) (w : World) : Calls Try.prog 49 #[.bool b] w fun x w' => x = .returned (.int .u64 (if b then 1 else 0)) ∧ w = w' := by
  cases b
  all_goals
    go_enter Try.func49, Try.ntmps49
    go_wp2_with fail
    go_ret
    exact ⟨rfl, rfl⟩
theorem two_any (t : UInt8) (x : Nat) (w : World) (hx : x < 18446744073709551616) : Calls Try.prog 48 #[.int .u8 (t.toNat : Int), .int .u64 (x : Int)] w fun e w' => e = .returned (.string ⟨(t :: putN x 1).toArray⟩) ∧ Below w.heap.size w w' := by
  have hrd := RdB.one (w := w) (t := 5) (b := t) rfl
  have hb0 := (Below.refl w.heap.size w).alloc (Nat.le_refl _) (.cells #[.int .u8 (t.toNat : Int)] 5)
  have hput := put_any (some ⟨w.heap.size, 0, none⟩) 1 1 [t] x 1 _ (hrd.more (by simp)) (by omega) hx (by omega) (by omega)
  have HP := Lib.hid hput
  have HB := Lib.hid hb0
  clear hput hrd hb0
  go_enter Try.func48, Try.ntmps48
  go_wp2_with fail
  refine HP.out.mono ?_
  rintro e w1 ⟨A, c, rfl, hown, hb⟩
  have hcv := conv_str hown.rd
  go_wp2_with fail
  go_ret
  exact ⟨rfl, chain HB.out hb⟩
theorem putN_one (x : Nat) : putN x 1 = [UInt8.ofNat x] := rfl
theorem putnode_any (b : Bool) (w : World) : Calls Try.prog 12 #[.bool b] w fun e w' => e = .returned (.string ⟨#[78, if b then 1 else 0]⟩) ∧ Below w.heap.size w w' := by
  have h2 := two_any 78 (if b then 1 else 0) w (by split <;> omega)
  cases b
  all_goals
    have H2 := Lib.hid h2
    clear h2
    go_enter Try.func12, Try.ntmps12
    go_wp2_with (go_at_call 49; refine (truth_any _ _).mono ?_; rintro e w' ⟨rfl, rfl⟩)
    refine H2.out.mono ?_
    rintro e w1 ⟨rfl, hb⟩
    go_wp2_with fail
    go_ret
    exact ⟨rfl, hb⟩
theorem rnode_any (b : Bool) (w : World) : Calls Try.prog 13 #[.bool b] w fun e w' => e = .returned (.string ⟨#[78, if b then 1 else 0]⟩) ∧ w = w' := by
  cases b
  all_goals
    go_enter Try.func13, Try.ntmps13
    go_wp2_with fail
    go_ret
    exact ⟨rfl, rfl⟩
/-- a node's seed -/
def seedN (l : List UInt8) : Nat := l.foldl (fun h c => ((h ^^^ c.toNat) * 1099511628211) % 18446744073709551616) 14695981039346656037
theorem seedN_snoc (l : List UInt8) (c : UInt8) : seedN (l ++ [c]) = ((seedN l ^^^ c.toNat) * 1099511628211) % 18446744073709551616 := by
  unfold seedN
  rw [List.foldl_append, List.foldl_cons, List.foldl_nil]
theorem seedN_lt (l : List UInt8) : seedN l < 18446744073709551616 := by
  rcases List.eq_nil_or_concat l with rfl | ⟨l', c, rfl⟩
  · show (14695981039346656037 : Nat) < 18446744073709551616
    omega
  · rw [List.concat_eq_append, seedN_snoc]; omega
/-- how a record of a tag and a number reads -/
def twoV (s : ByteArray) (t m : UInt8) : Option Nat := match s.data.toList with
  | [a, b] => if a = t ∧ b ≤ m then some b.toNat else none
  | _ => none
theorem str_two {s : ByteArray} (h : s.size = 2) : ∃ a b : UInt8, s = ⟨#[a, b]⟩ := by
  obtain ⟨⟨l⟩⟩ := s
  match l, h with
  | [a, b], _ => exact ⟨a, b, rfl⟩
theorem twoV_other {s : ByteArray} (h : s.size ≠ 2) (t m : UInt8) : twoV s t m = none := by
  obtain ⟨⟨l⟩⟩ := s
  unfold twoV
  match l, h with
  | [], _ => rfl
  | [a], _ => rfl
  | [a, b], h => exact absurd rfl h
  | a :: b :: c :: d, _ => rfl
theorem oftwo_any (s : ByteArray) (t m : UInt8) (w : World) : Calls Try.prog 50 #[.string s, .int .u8 (t.toNat : Int), .int .u8 (m.toNat : Int)] w fun x w' => x = .returned (.tuple #[.int .i64 (((twoV s t m).getD 0 : Nat) : Int), .bool (twoV s t m).isSome]) ∧ w = w' := by
  by_cases hs : s.size = 2
  · obtain ⟨a, b, rfl⟩ := str_two hs
    have ha := a.toNat_lt
    have hb := b.toNat_lt
    have e0 : (⟨#[a, b]⟩ : ByteArray).size = 2 := rfl
    have g0 : (⟨#[a, b]⟩ : ByteArray)[0]'(by rw [e0]; decide) = a := rfl
    have g1 : (⟨#[a, b]⟩ : ByteArray)[1]'(by rw [e0]; decide) = b := rfl
    by_cases h1 : a = t
    · subst h1
      by_cases h2 : b ≤ m
      · have h2' : b.toNat ≤ m.toNat := UInt8.le_iff_toNat_le.1 h2
        rw [show twoV ⟨#[a, b]⟩ a m = some b.toNat from by simp [twoV, h2]]
        have hd : ¬ (m.toNat < b.toNat) := by omega
        clear h2 hs
        go_enter Try.func50, Try.ntmps50
        go_wp2_with fail
        go_ret2
        exact ⟨rfl, rfl⟩
      · have h2' : m.toNat < b.toNat := by have := mt UInt8.le_iff_toNat_le.2 h2; omega
        rw [show twoV ⟨#[a, b]⟩ a m = none from by simp [twoV, h2]]
        clear h2 hs
        go_enter Try.func50, Try.ntmps50
        go_wp2_with fail
        go_ret2
        exact ⟨rfl, rfl⟩
    · have h1' : ¬ (a.toNat : Int) = (t.toNat : Int) := fun e => h1 (UInt8.toNat_inj.1 (by omega))
      have h1'' : ¬ a.toNat = t.toNat := fun e => h1 (UInt8.toNat_inj.1 e)
      rw [show twoV ⟨#[a, b]⟩ t m = none from by simp [twoV, h1]]
      clear h1 hs
      go_enter Try.func50, Try.ntmps50
      go_wp2_with fail
      go_ret2
      exact ⟨rfl, rfl⟩
  · rw [twoV_other hs]
    have hne : ((s.size : Int) == 2) = false := by simp; omega
    have hne2 : ¬ (s.size : Int) = 2 := by omega
    go_enter Try.func50, Try.ntmps50
    go_wp2_with fail
    go_ret2
    exact ⟨rfl, rfl⟩
theorem readnode_any (s : ByteArray) (w : World) : Calls Try.prog 30 #[.string s] w fun x w' => x = .returned (.tuple #[.bool (decide (twoV s 78 1 = some 1)), .int .i64 (if (twoV s 78 1).isSome then 0 else 3)]) ∧ w = w' := by
  have h2 := oftwo_any s 78 1 w
  cases hv : twoV s 78 1 with
  | none =>
    rw [hv] at h2
    have H2 := Lib.hid h2
    clear h2 hv
    go_enter Try.func30, Try.ntmps30
    go_wp2_with fail
    refine H2.out.mono ?_
    rintro x w1 ⟨rfl, rfl⟩
    go_wp2_with fail
    go_ret2
    exact ⟨rfl, rfl⟩
  | some k =>
    rw [hv] at h2
    have hd : ((k : Int) == 1) = decide (some k = some 1) := by rw [Bool.eq_iff_iff]; simp; omega
    generalize decide (some k = some 1) = d at *
    have HD := Lib.hid hd
    have H2 := Lib.hid h2
    clear h2 hv hd
    go_enter Try.func30, Try.ntmps30
    go_wp2_with fail
    refine H2.out.mono ?_
    rintro x w1 ⟨rfl, rfl⟩
    go_wp2_with fail
    rw [HD.out]
    go_ret2
    exact ⟨rfl, rfl⟩
/-- how an affinity's bytes read -/
def affV (s : ByteArray) : Option Nat := match twoV s 65 3 with
  | some k => if 1 ≤ k then some k else none
  | none => none
theorem readaff_any (s : ByteArray) (w : World) : Calls Try.prog 18 #[.string s] w fun x w' => x = .returned (.tuple #[.int .i64 (((affV s).getD 0 : Nat) : Int), .int .i64 (if (affV s).isSome then 0 else 3)]) ∧ w = w' := by
  have h2 := oftwo_any s 65 3 w
  unfold affV
  cases hv : twoV s 65 3 with
  | none =>
    rw [hv] at h2
    have H2 := Lib.hid h2
    clear h2 hv
    go_enter Try.func18, Try.ntmps18
    go_wp2_with fail
    refine H2.out.mono ?_
    rintro x w1 ⟨rfl, rfl⟩
    go_wp2_with fail
    go_ret2
    exact ⟨rfl, rfl⟩
  | some k =>
    rw [hv] at h2
    have H2 := Lib.hid h2
    clear h2 hv
    by_cases hk : 1 ≤ k
    · simp only [if_pos hk]
      have hd : ¬ (k : Int) < 1 := by omega
      go_enter Try.func18, Try.ntmps18
      go_wp2_with fail
      refine H2.out.mono ?_
      rintro x w1 ⟨rfl, rfl⟩
      go_wp2_with fail
      go_ret2
      exact ⟨rfl, rfl⟩
    · simp only [if_neg hk]
      have hd : (k : Int) < 1 := by omega
      go_enter Try.func18, Try.ntmps18
      go_wp2_with fail
      refine H2.out.mono ?_
      rintro x w1 ⟨rfl, rfl⟩
      go_wp2_with fail
      go_ret2
      exact ⟨rfl, rfl⟩
theorem putaff_bad (n : Int) (w : World) (h : n < 1 ∨ 3 < n) : Calls Try.prog 16 #[.int .i64 n] w fun x w' => x = .returned (.tuple #[.string ⟨#[]⟩, .int .i64 1]) ∧ w = w' := by
  by_cases h1 : n < 1
  · go_enter Try.func16, Try.ntmps16
    go_wp2_with fail
    go_ret2
    exact ⟨rfl, rfl⟩
  · have h2 : 3 < n := by omega
    go_enter Try.func16, Try.ntmps16
    go_wp2_with fail
    go_ret2
    exact ⟨rfl, rfl⟩
theorem putaff_ok (n : Nat) (w : World) (h : 1 ≤ n ∧ n ≤ 3) : Calls Try.prog 16 #[.int .i64 (n : Int)] w fun x w' => x = .returned (.tuple #[.string ⟨#[65, UInt8.ofNat n]⟩, .int .i64 0]) ∧ Below w.heap.size w w' := by
  have h2 := two_any 65 n w (by omega)
  have H2 := Lib.hid h2
  clear h2
  have hn : n = 1 ∨ n = 2 ∨ n = 3 := by omega
  rcases hn with rfl | rfl | rfl
  all_goals
    go_enter Try.func16, Try.ntmps16
    go_wp2_with fail
    refine H2.out.mono ?_
    rintro x w1 ⟨rfl, hb⟩
    go_wp2_with fail
    go_ret2
    exact ⟨rfl, hb⟩
theorem awake13 (w : World) : Calls Try.prog 17 #[] w fun x w' => x = .returned (.bool true) ∧ Below w.heap.size w w' := by
  have h1 := readnode_any ⟨#[78, 1]⟩ w
  rw [show twoV ⟨#[78, 1]⟩ 78 1 = some 1 from rfl] at h1
  simp only [decide_true, Option.isSome_some, if_true] at h1
  have h2 := fun w => putnode_any true w
  have H1 := Lib.hid h1
  have H2 := Lib.hid h2
  clear h1 h2
  go_enter Try.func17, Try.ntmps17
  go_wp2_with fail
  refine H1.out.mono ?_
  rintro x w1 ⟨rfl, rfl⟩
  go_wp2_with fail
  refine (H2.out _).mono ?_
  rintro x w1 ⟨rfl, hb⟩
  go_wp2_with fail
  go_ret
  exact ⟨rfl, hb⟩
theorem conv_bytes (s : ByteArray) (w : World) (hs : s.size ≤ 1099511627776) : ∃ cap w', (convert 9 31 (.string s)).run Try.prog w = .ok (.slice (some ⟨w.heap.size, 0, none⟩) s.size cap) w' ∧ RdB w' w'.heap.size (some ⟨w.heap.size, 0, none⟩) s.size cap s.data.toList ∧ Below w.heap.size w w' := by
  refine ⟨_, _, run_bytes_of_string w _ _ 5 s Try.underlying9 Try.underlying31 Try.underlying5, ?_, (Below.drew (Below.refl _ _)).alloc (Nat.le_refl _) _⟩
  have hsz : s.data.toList.length = s.size := by rw [Array.length_toList]; rfl
  refine ⟨by rw [bys_length, hsz, Nat.mul_one], grownCap_ge _ _ _ _, grownCap_le_maxLen _ _ _ _ (by simp only [maxLen]; omega), fun _ => ⟨_, 0, rfl, by simp, fun j u hu => ?_⟩⟩
  obtain ⟨b, hb, rfl⟩ := bys_get hu
  rw [show (⟨w.heap.size, 0 + j, none⟩ : Addr) = ⟨w.drew.heap.size, j, none⟩ from by simp]
  rw [World.cell?_alloc_mark]
  have hj : j < s.data.size := by have := (List.getElem?_eq_some_iff.1 hb).1; simpa using this
  rw [bytesRow_at s _ j hj]
  rw [Array.getElem?_toList, Array.getElem?_eq_getElem hj] at hb
  injection hb with hb
  rw [hb]
theorem seed_step (h c : Nat) (hh : h < 18446744073709551616) (hc : c < 256) : IntKind.u64.wrap (bits .xor .u64 (h : Int) (IntKind.u64.wrap (c : Int)) * 1099511628211) = (((h ^^^ c) * 1099511628211 % 18446744073709551616 : Nat) : Int) := by
  have e : IntKind.u64.wrap (c : Int) = (c : Int) := by rw [IntKind.wrap_u64]; omega
  rw [e, u64_xor_nat h c hh (Nat.lt_of_lt_of_le hc (by decide)), IntKind.wrap_u64, Int.natCast_emod, Int.natCast_mul]
  simp only [Int.cast_ofNat_Int]
set_option maxHeartbeats 400000 in
theorem seed_any (s : ByteArray) (w : World) (hs : s.size ≤ 1099511627776) : Calls Try.prog 14 #[.string s] w fun x w' => x = .returned (.int .u64 (seedN s.data.toList : Int)) ∧ Below w.heap.size w w' := by
  obtain ⟨cap, w1, hcv, hr, hb⟩ := conv_bytes s w hs
  have hlen : s.data.toList.length = s.size := by rw [Array.length_toList]; rfl
  have h0 : seedN [] = 14695981039346656037 := rfl
  generalize s.data.toList = l at *
  generalize hn : s.size = n at *
  have HR := Lib.hid hr
  have HB := Lib.hid hb
  have HL := Lib.hid hlen
  have H0 := Lib.hid h0
  clear hr hb hlen h0 hn
  go_enter Try.func14, Try.ntmps14
  go_wp2_with fail
  go_loop [3, 9] (fun h i => ∃ k : Nat, k ≤ n ∧ i = .int .i64 (k : Int) ∧ h = .int .u64 (seedN (l.take k) : Int)) (fun _ i => n - (intOf i).toNat)
  case atStart => exact ⟨0, Nat.zero_le _, rfl, by rw [List.take_zero, H0.out]; rfl⟩
  case round =>
    obtain ⟨k, hk, rfl, rfl⟩ := hrel
    by_cases hlt : k < n
    · obtain ⟨g, off, e, hg, hcell⟩ := HR.out.get (k := k) (by rw [HL.out]; exact hlt)
      injection e with e
      injection e with e1 e2
      subst e1
      subst e2
      rw [Nat.zero_add] at hcell
      have hkl : k < l.length := by rw [HL.out]; exact hlt
      have hst := seed_step (seedN (l.take k)) l[k].toNat (seedN_lt _) l[k].toNat_lt
      have hsn := seedN_snoc (l.take k) l[k]
      rw [← List.take_succ_eq_append_getElem (by rw [HL.out]; exact hlt)] at hsn
      rw [← hsn] at hst
      have HS := Lib.hid hst
      clear hst hsn
      generalize seedN (l.take k) = h at *
      go_wp2_with fail
      rw [HS.out]
      go_round
      case rel => exact ⟨k + 1, by omega, by go_num, rfl⟩
      case measure => simp [intOf]; omega
    · obtain rfl : k = n := by omega
      have hfull : l.take k = l := List.take_of_length_le (by rw [HL.out]; exact Nat.le_refl _)
      rw [hfull]
      clear hfull
      go_wp2_with fail
      go_ret
      exact ⟨rfl, HB.out⟩
set_option maxHeartbeats 400000 in
theorem rseed_any (s : ByteArray) (w : World) (hs : s.size ≤ 1099511627776) : Calls Try.prog 15 #[.string s] w fun x w' => x = .returned (.int .u64 (seedN s.data.toList : Int)) ∧ w = w' := by
  have hlen : s.data.toList.length = s.size := by rw [Array.length_toList]; rfl
  have h0 : seedN [] = 14695981039346656037 := rfl
  have HL := Lib.hid hlen
  have H0 := Lib.hid h0
  clear hlen h0
  go_enter Try.func15, Try.ntmps15
  go_wp2_with fail
  go_loop [3, 4] (fun h i => ∃ k : Nat, k ≤ s.size ∧ i = .int .i64 (k : Int) ∧ h = .int .u64 (seedN (s.data.toList.take k) : Int)) (fun _ i => s.size - (intOf i).toNat)
  case atStart => exact ⟨0, Nat.zero_le _, rfl, by rw [List.take_zero, H0.out]; rfl⟩
  case round =>
    obtain ⟨k, hk, rfl, rfl⟩ := hrel
    by_cases hlt : k < s.size
    · have hkl : k < s.data.toList.length := by rw [HL.out]; exact hlt
      have hst := seed_step (seedN (s.data.toList.take k)) s[k].toNat (seedN_lt _) s[k].toNat_lt
      have hsn := seedN_snoc (s.data.toList.take k) s.data.toList[k]
      rw [← List.take_succ_eq_append_getElem hkl] at hsn
      rw [show s.data.toList[k] = s[k] from by rw [Array.getElem_toList]; rfl] at hsn
      rw [← hsn] at hst
      have HS := Lib.hid hst
      clear hst hsn
      generalize seedN (s.data.toList.take k) = h at *
      go_wp2_with fail
      rw [HS.out]
      go_round
      case rel => exact ⟨k + 1, by omega, by go_num, rfl⟩
      case measure => simp [intOf]; omega
    · obtain rfl : k = s.size := by omega
      have hfull : s.data.toList.take s.size = s.data.toList := List.take_of_length_le (by rw [HL.out]; exact Nat.le_refl _)
      rw [hfull]
      clear hfull
      go_wp2_with fail
      go_ret
      exact ⟨rfl, rfl⟩
end Go.Proofs.Ytcepknjcgknidaa
