/- The reference's Put, Text and Num. -/
import Derived.Test.YtkohfgkokboghaaPack
import Derived.IntWalk
namespace Go.Proofs.Ytkohfgkokboghaa
set_option linter.unusedSimpArgs false
set_option linter.unusedVariables false
open Go.RowKit

set_option maxHeartbeats 400000 in
theorem ref_put (x width : Nat) (w : World) (hx : x < 18446744073709551616) (h1 : 1 ≤ width) (h8 : width ≤ 8) :
    Calls Try.prog 26 #[.int .u64 (x : Int), .int .i64 (width : Int)] w fun e w' => ∃ A, e = .returned (.slice A width width) ∧ OwnB w' w.heap.size A width width (putN x width) ∧ Below w.heap.size w w' := by
  go_enter Try.func26, Try.ntmps26
  go_wp2_with (at_make; refine make_u8 rfl (.tmp 13) (.tmp 13) rfl w.heap.size width rfl rfl ?_ ?c1 ?c2 ?c3 ?c4; intro w1 hown hb)
  case c1 => rfl
  case c2 => rfl
  case c3 => omega
  case c4 => omega
  go_loopw [0, 6] (fun v i wr => ∃ (k : Int), -1 ≤ k ∧ k < width ∧ i = .int .i64 k ∧ v = .int .u64 ((x / 256 ^ (width - (k + 1).toNat) : Nat) : Int) ∧ OwnB wr w.heap.size (some ⟨w.heap.size, 0, none⟩) width width (List.replicate (k + 1).toNat 0 ++ putN x (width - (k + 1).toNat)) ∧ Below w.heap.size w wr) (fun _ i _ => (intOf i + 1).toNat)
  case atStart => exact ⟨_, by omega, by omega, rfl, by simp, by simpa [putN] using hown, hb⟩
  case round =>
    obtain ⟨k, hk1, hk2, rfl, rfl, hown3, hb3⟩ := hrel
    by_cases hk : 0 ≤ k
    · obtain ⟨j, rfl⟩ := Int.eq_ofNat_of_zero_le hk
      have e1 : ((j : Int) + 1).toNat = j + 1 := by omega
      have e0 : ((j : Int) - 1 + 1).toNat = j := by omega
      simp only [e1] at hown3 ⊢
      clear e1
      obtain ⟨hc, hf⟩ := hown3.at_ (k := j) (by simp; omega)
      generalize hyd : x / 256 ^ (width - (j + 1)) = y at *
      have hy : y < 18446744073709551616 := by rw [← hyd]; exact Nat.lt_of_le_of_lt (Nat.div_le_self _ _) hx
      have HD := Lib.hid hyd
      have HE := Lib.hid e0
      clear hyd e0
      go_wp2
      go_roundw
      case rel =>
        obtain ⟨s1, s2, _⟩ := hown3.set j (UInt8.ofNat y) (v := (y : Int) % 256) (by rw [UInt8.toNat_ofNat']; simp)
        refine ⟨(j : Int) - 1, by omega, by omega, rfl, ?_, ?_, hb3.trans s2⟩
        · rw [HE.out, ← HD.out, show width - j = width - (j + 1) + 1 from by omega, Nat.pow_succ, ← Nat.div_div_eq_div_mul]
          simp
        · rw [HE.out]
          have e2 : (List.replicate (j + 1) 0 ++ putN x (width - (j + 1))).set j (UInt8.ofNat y) = List.replicate j 0 ++ putN x (width - j) := by
            rw [show width - j = width - (j + 1) + 1 from by omega, putN_cons, HD.out, List.replicate_succ', List.append_assoc, List.set_append_right _ _ (by simp)]
            simp
          rw [e2] at s1
          exact s1
      case measure => simp [intOf]
    · obtain rfl : k = -1 := by omega
      go_wp2
      go_ret
      simp at hown3
      exact ⟨_, rfl, hown3, hb3⟩

theorem ref_put_w (x : Nat) (width : Int) (w : World) (hx : x < 18446744073709551616) :
    Calls Try.prog 26 #[.int .u64 (x : Int), .int .i64 width] w fun e w' => ∃ A, e = .returned (.slice A (putW x width).length (putW x width).length) ∧ OwnB w' w.heap.size A (putW x width).length (putW x width).length (putW x width) ∧ Below w.heap.size w w' := by
  by_cases hw : 1 ≤ width ∧ width ≤ 8
  · obtain ⟨k, rfl⟩ := Int.eq_ofNat_of_zero_le (show 0 ≤ width by omega)
    have e1 : putW x (k : Int) = putN x k := by unfold putW; rw [if_pos hw]; simp
    rw [e1, putN_length]
    exact ref_put x k w hx (by omega) (by omega)
  · have e1 : putW x width = [] := by unfold putW; rw [if_neg hw]
    rw [e1]
    clear e1
    by_cases h1 : width < 1
    · clear hw
      go_enter Try.func26, Try.ntmps26
      go_wp2
      go_ret
      exact ⟨none, rfl, OwnB.nil, Below.refl _ _⟩
    · have h8 : 8 < width := by omega
      clear hw
      go_enter Try.func26, Try.ntmps26
      go_wp2
      go_ret
      exact ⟨none, rfl, OwnB.nil, Below.refl _ _⟩

theorem add_step (x c : Nat) (hc : c < 256) : IntKind.u64.wrap (IntKind.u64.wrap ((x : Int) * 256) + IntKind.u64.wrap (c : Int)) = (((x * 256 + c) % 18446744073709551616 : Nat) : Int) := by
  simp only [IntKind.wrap_u64]
  omega

theorem ref_num (A : Option Addr) (n c : Nat) (B : Nat) (l : List UInt8) (w : World) (hr : RdB w B A n c l) :
    Calls Try.prog 30 #[.slice A n c] w fun e w' => e = .returned (.int .u64 (num l : Int)) ∧ w = w' := by
  obtain rfl : l.length = n := hr.length
  have hle := hr.le
  have hmax := hr.max
  unfold maxLen at hmax
  go_enter Try.func30, Try.ntmps30
  go_wp2
  go_loop [3, 8] (fun v i => ∃ k : Nat, k ≤ l.length ∧ i = .int .i64 (k : Int) ∧ v = .int .u64 (num (l.take k) : Int)) (fun _ i => l.length - (intOf i).toNat)
  case atStart => exact ⟨0, Nat.zero_le _, rfl, rfl⟩
  case round =>
    obtain ⟨k, hk, rfl, rfl⟩ := hrel
    by_cases hlt : k < l.length
    · obtain ⟨b, off, rfl, hb, hc⟩ := hr.get hlt
      have hx := num_lt (l.take k)
      go_wp2
      go_round
      case rel =>
        refine ⟨k + 1, by omega, by go_num, ?_⟩
        rw [List.take_succ_eq_append_getElem hlt, num_snoc, ← add_step _ _ (UInt8.toNat_lt _)]
      case measure => simp [intOf]; omega
    · obtain rfl : k = l.length := by omega
      go_wp2
      go_ret
      exact ⟨by simp, rfl⟩

theorem ref_text (s : ByteArray) (w : World) (hs : s.size ≤ 1099511627776) :
    Calls Try.prog 28 #[.string s] w fun e w' => ∃ A c, e = .returned (.slice A (s.size + 1) c) ∧ OwnB w' w.heap.size A (s.size + 1) c (textL s) ∧ Below w.heap.size w w' := by
  go_enter Try.func28, Try.ntmps28
  have hv : (s.size : Int) % 256 = ((UInt8.ofNat s.size).toNat : Int) := by rw [UInt8.toNat_ofNat']; simp
  have HV := Lib.hid hv
  clear hv
  go_wp2_with (at_builtin; refine app_str rfl (.tmp 6) (.tmp 7) rfl rfl (OwnB.lit (l := [UInt8.ofNat s.size]) (by rw [HV.out]; rfl) (Nat.le_refl _) (by simp [maxLen])) rfl ?_ ?c1 ?c2; intro A2 c2 w1 hown hb _)
  case c1 => omega
  case c2 => simp
  go_ret
  rw [Nat.add_comm] at hown ⊢
  exact ⟨A2, c2, by simp, hown, ((Below.refl _ _).alloc (Nat.le_refl _) _).trans hb⟩

/-- pack.Text -/
theorem ptext_ok (A : Option Addr) (n c : Nat) (l : List UInt8) (s : ByteArray) (w : World) (hr : RdB w w.heap.size A n c l) (hn : n ≤ 1099511627776) (hs : s.size ≤ 64) :
    Calls Try.prog 27 #[.slice A n c, .string s] w fun e w' => ∃ A2 c2, e = .returned (.tuple #[.slice A2 (n + (s.size + 1)) c2, .int .i64 0]) ∧ OwnB w' w.heap.size A2 (n + (s.size + 1)) c2 (l ++ textL s) ∧ Below w.heap.size w w' := by
  go_enter Try.func27, Try.ntmps27
  go_wp2_with (first | (go_at_call 25; refine (put_any A n c l s.size 1 _ hr hn (by omega) (by omega) (by omega)).mono ?_; rintro e w1 ⟨A1, c1, rfl, hown1, hb1⟩) | (at_builtin; refine app_str rfl (.tmp 13) (.tmp 14) rfl rfl hown1 rfl ?_ ?c1 ?c2; intro A2 c2 w2 hown2 hb2 _))
  case c1 => omega
  case c2 => exact hb1.size
  go_ret2
  have e1 : n + 1 + s.size = n + (s.size + 1) := by omega
  rw [e1, List.append_assoc] at hown2
  rw [e1]
  exact ⟨A2, c2, rfl, hown2, hb1.trans hb2⟩

theorem ptext_long (A : Option Addr) (n c : Nat) (s : ByteArray) (w : World) (hs : 64 < s.size) :
    Calls Try.prog 27 #[.slice A n c, .string s] w fun e w' => e = .returned (.tuple #[.slice none 0 0, .int .i64 1]) ∧ w = w' := by
  go_enter Try.func27, Try.ntmps27
  go_wp2
  go_ret2
  exact ⟨rfl, rfl⟩

/-- the reference's reader at block g; its bytes lie below B -/
def IsRef (w : World) (B g : Nat) (s : St) : Prop := ∃ (A : Option Addr) (n c : Nat) (b : List UInt8) (k : Nat), w.heap[g]? = some (.cells #[.slice A n c, .int .i64 (k : Int), .bool s.bad] 45) ∧ RdB w B A n c b ∧ k ≤ b.length ∧ s.l = b.drop k

theorem cells3 {w : World} {g : Nat} {a b d : Value} {t : TypeId} (h : w.heap[g]? = some (.cells #[a, b, d] t)) :
    w.cell? ⟨g, 0, none⟩ = some a ∧ w.cell? ⟨g, 1, none⟩ = some b ∧ w.cell? ⟨g, 2, none⟩ = some d ∧ w.frozen? ⟨g, 0, none⟩ = false ∧ w.frozen? ⟨g, 1, none⟩ = false ∧ w.frozen? ⟨g, 2, none⟩ = false ∧ g < w.heap.size := by
  refine ⟨by simp [World.cell?, h], by simp [World.cell?, h], by simp [World.cell?, h], by simp [World.frozen?, h], by simp [World.frozen?, h], by simp [World.frozen?, h], (Array.getElem?_eq_some_iff.1 h).1⟩

theorem only_drewN {w w' : World} {row : Option Nat} (h : w.grownBy w' row) (k : Nat) : w.grownBy (w'.drewN k) row := ⟨h.os, h.tape, h.output, h.size, h.block⟩
theorem drewN_only {w w' : World} {row : Option Nat} {k : Nat} (h : (w.drewN k).grownBy w' row) : w.grownBy w' row := ⟨h.os, h.tape, h.output, h.size, h.block⟩

theorem rleft_any (B g : Nat) (s : St) (w : World) (h : IsRef w B g s) :
    Calls Try.prog 34 #[.pointer (some ⟨g, 0, none⟩)] w fun e w' => e = .returned (.int .i64 (s.left : Int)) ∧ ∃ k, w' = w.drewN k := by
  obtain ⟨A, n, c, b, k, hblk, hr, hk, hl⟩ := h
  obtain ⟨c0, c1, c2, f0, f1, f2, hg⟩ := cells3 hblk
  obtain ⟨l, bad⟩ := s
  obtain rfl : b.length = n := hr.length
  have hle := hr.le
  have hmax := hr.max
  unfold maxLen at hmax
  simp only at hl
  subst hl
  clear hblk
  cases bad
  · go_enter Try.func34, Try.ntmps34
    go_wp2_with fail
    go_quiet (fail)
    go_wp2
    go_ret
    refine ⟨?_, _, rfl⟩
    simp [St.left]
    omega
  · go_enter Try.func34, Try.ntmps34
    go_wp2_with fail
    go_ret
    exact ⟨by simp [St.left], 0, rfl⟩

theorem rbytes_ok (B g : Nat) (l : List UInt8) (m : Nat) (hm : m ≤ l.length) (w : World) (hB : B ≤ g) (h : IsRef w B g ⟨l, false⟩) :
    Calls Try.prog 33 #[.pointer (some ⟨g, 0, none⟩), .int .i64 (m : Int)] w fun e w' => ∃ A c, e = .returned (.slice A m c) ∧ RdB w' B A m c (l.take m) ∧ IsRef w' B g ⟨l.drop m, false⟩ ∧ w.grownBy w' (some g) := by
  obtain ⟨A, n, c, b, k, hblk, hr, hk, hl⟩ := h
  obtain ⟨c0, c1, c2, f0, f1, f2, hg⟩ := cells3 hblk
  obtain rfl : b.length = n := hr.length
  have hle := hr.le
  have hmax := hr.max
  unfold maxLen at hmax
  simp only at hl
  subst hl
  have hm' : m ≤ b.length - k := by simpa using hm
  clear hm
  have HB := Lib.hid hblk
  clear hblk
  have hw : IntKind.i64.wrap ((b.length : Int) - (k : Int)) = (b.length : Int) - (k : Int) := IntWalk.i64_in _ (by omega)
  go_enter Try.func33, Try.ntmps33
  go_wp2_with fail
  go_quiet (fail)
  go_wp2_with fail
  clear hw
  have hw1 : IntKind.i64.wrap ((k : Int) + (m : Int) - (m : Int)) = (k : Int) := by rw [IntWalk.i64_in _ (by omega)]; omega
  go_quiet (fail)
  go_wp2
  all_goals
    rename_i h
    go_ret
    have hd := (hr.drop hk).take (k := m) (c' := c - k) hm' (by omega) (Nat.le_refl _)
    first | rw [if_pos h, h, Nat.sub_self] at hd | rw [if_neg h] at hd
    refine ⟨_, _, rfl, ((hd.drewN _).setCell hB _).drewN _, ⟨A, _, _, b, k + m, ?_, ((hr.drewN _).setCell hB _).drewN _, by omega, by simp⟩, only_drewN (drewN_only (only_setCell _ g 1 _)) _⟩
    exact heap_setCell_at HB.out 1 _

theorem rbytes_bad (B g : Nat) (s : St) (n : Int) (hn : s.bad = true ∨ n < 0 ∨ (s.l.length : Int) < n) (w : World) (hB : B ≤ g) (h : IsRef w B g s) :
    Calls Try.prog 33 #[.pointer (some ⟨g, 0, none⟩), .int .i64 n] w fun e w' => e = .returned (.slice none 0 0) ∧ IsRef w' B g ⟨s.l, true⟩ ∧ w.grownBy w' (some g) := by
  obtain ⟨A, m, c, b, k, hblk, hr, hk, hl⟩ := h
  obtain ⟨c0, c1, c2, f0, f1, f2, hg⟩ := cells3 hblk
  obtain rfl : b.length = m := hr.length
  have hle := hr.le
  have hmax := hr.max
  unfold maxLen at hmax
  obtain ⟨l, bad⟩ := s
  simp only at hl
  subst hl
  have HB := Lib.hid hblk
  clear hblk
  have hfin : ∀ (a : Nat) (w0 : World), w0 = (w.drewN a).setCell ⟨g, 2, none⟩ (.bool true) → IsRef w0 B g ⟨b.drop k, true⟩ ∧ w.grownBy w0 (some g) := by
    rintro a w0 rfl
    exact ⟨⟨A, _, _, b, k, heap_setCell_at (w := w.drewN a) HB.out 2 _, (hr.drewN _).setCell hB _, hk, rfl⟩, drewN_only (only_setCell _ g 2 _)⟩
  have HF := Lib.hid hfin
  clear hfin
  cases bad
  · by_cases hneg : n < 0
    · clear hn
      go_enter Try.func33, Try.ntmps33
      go_wp2_with fail
      have hneg' : decide (n < 0) = true := by simpa using hneg
      go_quiet (fail)
      go_wp2
      go_ret
      exact ⟨rfl, HF.out _ _ rfl⟩
    · have hbig : (b.length : Int) - (k : Int) < n := by simp [hneg] at hn; omega
      have hneg' : decide (n < 0) = false := by simpa using hneg
      have hw : IntKind.i64.wrap ((b.length : Int) - (k : Int)) = (b.length : Int) - (k : Int) := IntWalk.i64_in _ (by omega)
      clear hn
      go_enter Try.func33, Try.ntmps33
      go_wp2_with fail
      go_quiet (fail)
      go_wp2
      go_ret
      exact ⟨rfl, HF.out _ _ rfl⟩
  · clear hn
    go_enter Try.func33, Try.ntmps33
    go_wp2_with fail
    go_quiet (fail)
    go_wp2
    go_ret
    exact ⟨rfl, HF.out _ _ rfl⟩
end Go.Proofs.Ytkohfgkokboghaa
