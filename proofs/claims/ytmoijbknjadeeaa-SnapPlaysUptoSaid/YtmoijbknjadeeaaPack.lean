
/- pack.Put at any width, New, and the methods of a reader. -/
import Derived.Test.YtmoijbknjadeeaaPackPut
import Derived.Test.YtmoijbknjadeeaaBase
import Derived.BigQuiet
import Derived.Deep.QuietTactic
namespace Go.Proofs.Ytmoijbknjadeeaa
set_option linter.unusedSimpArgs false
set_option linter.unusedVariables false
open Go.RowKit

/-- the program's reader at block g -/
def IsRdr (w : World) (g : Nat) (s : St) : Prop := ∃ A n c, w.heap[g]? = some (.cells #[.slice A n c, .bool s.bad] 159) ∧ RdB w g A n c s.l

theorem cells2 {w : World} {g : Nat} {a b : Value} {t : TypeId} (h : w.heap[g]? = some (.cells #[a, b] t)) :
    w.cell? ⟨g, 0, none⟩ = some a ∧ w.cell? ⟨g, 1, none⟩ = some b ∧ w.frozen? ⟨g, 0, none⟩ = false ∧ w.frozen? ⟨g, 1, none⟩ = false ∧ g < w.heap.size := by
  refine ⟨by simp [World.cell?, h], by simp [World.cell?, h], by simp [World.frozen?, h], by simp [World.frozen?, h], (Array.getElem?_eq_some_iff.1 h).1⟩

theorem IsRdr.below {w w' : World} {g : Nat} {s : St} (h : IsRdr w g s) (hb : Below w.heap.size w w') : IsRdr w' g s := by
  obtain ⟨A, n, c, hblk, hr⟩ := h
  have hg := (Array.getElem?_eq_some_iff.1 hblk).1
  exact ⟨A, n, c, (hb.block g hg).trans hblk, hr.below (hb.mono (Nat.le_of_lt hg))⟩
theorem IsRdr.alloc {w : World} {g : Nat} {s : St} (h : IsRdr w g s) (o : Obj) : IsRdr (w.alloc o) g s := h.below ((Below.refl _ _).alloc (Nat.le_refl _) o)
theorem IsRdr.lt {w : World} {g : Nat} {s : St} (h : IsRdr w g s) : g < w.heap.size := by
  obtain ⟨A, n, c, hblk, hr⟩ := h
  exact (Array.getElem?_eq_some_iff.1 hblk).1

theorem bad_any (g : Nat) (s : St) (w : World) (h : IsRdr w g s) :
    Calls Try.prog 112 #[.pointer (some ⟨g, 0, none⟩)] w fun e w' => e = .returned (.bool s.bad) ∧ w = w' := by
  obtain ⟨A, n, c, hblk, hr⟩ := h
  obtain ⟨c0, c1, f0, f1, hg⟩ := cells2 hblk
  clear hblk
  go_enter Try.func112, Try.ntmps112
  go_wp2_with fail
  go_ret
  exact ⟨rfl, rfl⟩

theorem heap_setCell_at {w : World} {g : Nat} {cs : Array Value} {t : TypeId} (h : w.heap[g]? = some (.cells cs t)) (i : Nat) (u : Value) : (w.setCell ⟨g, i, none⟩ u).heap[g]? = some (.cells (cs.setIfInBounds i u) t) := by
  simp [World.setCell, Array.getElem?_modify, h]

theorem only_setCell (w : World) (g i : Nat) (u : Value) : w.grownBy (w.setCell ⟨g, i, none⟩ u) (some g) :=
  ⟨rfl, rfl, rfl, by simp [World.setCell], fun k _ hne => Below.heap_setCell w ⟨g, i, none⟩ u k (fun e => hne (by rw [e]))⟩

theorem only_trans {a b c : World} {row : Option Nat} (h : a.grownBy b row) (k : b.grownBy c row) : a.grownBy c row :=
  ⟨k.os.trans h.os, k.tape.trans h.tape, k.output.trans h.output, Nat.le_trans h.size k.size, fun i hi hne => (k.block i (Nat.lt_of_lt_of_le hi h.size) hne).trans (h.block i hi hne)⟩

theorem only_below {w w' : World} {g B : Nat} (h : w.grownBy w' (some g)) (hB : B ≤ g) (hBw : B ≤ w.heap.size) : Below B w w' := (Below.refl _ _).grown h hBw (by intro k hk; injection hk with hk; omega)

/-- the reader behind a call that touches block g alone -/
theorem spoil_any (g : Nat) (s : St) (w : World) (h : IsRdr w g s) :
    Calls Try.prog 123 #[.pointer (some ⟨g, 0, none⟩)] w fun e w' => e = .returned (.tuple #[]) ∧ IsRdr w' g ⟨s.l, true⟩ ∧ w.grownBy w' (some g) := by
  obtain ⟨A, n, c, hblk, hr⟩ := h
  obtain ⟨c0, c1, f0, f1, hg⟩ := cells2 hblk
  go_enter Try.func123, Try.ntmps123
  go_wp2
  go_end0
  refine ⟨rfl, ⟨A, n, c, ?_, hr.setCell (Nat.le_refl _) _⟩, only_setCell w g 1 _⟩
  rw [heap_setCell_at hblk]
  rfl

theorem bytes_ok (g : Nat) (l : List UInt8) (k : Nat) (hk : k ≤ l.length) (w : World) (h : IsRdr w g ⟨l, false⟩) :
    Calls Try.prog 124 #[.pointer (some ⟨g, 0, none⟩), .int .i64 (k : Int)] w fun e w' => ∃ A, e = .returned (.slice A k k) ∧ RdB w' g A k k (l.take k) ∧ IsRdr w' g ⟨l.drop k, false⟩ ∧ w.grownBy w' (some g) := by
  have H := Lib.hid h
  obtain ⟨A, n, c, hblk, hr⟩ := h
  obtain ⟨c0, c1, f0, f1, hg⟩ := cells2 hblk
  obtain rfl : l.length = n := hr.length
  have hle := hr.le
  have hmax := hr.max
  unfold maxLen at hmax
  have HB := Lib.hid hblk
  clear hblk
  go_enter Try.func124, Try.ntmps124
  go_wp2_with (go_at_call 112; refine (bad_any g _ _ H.out).mono ?_; rintro e w1 ⟨rfl, rfl⟩)
  · rename_i h
    subst h
    go_ret
    have hd := hr.drop hk
    rw [if_pos rfl, Nat.sub_self] at hd
    refine ⟨A, rfl, (hr.take hk (Nat.le_refl _) (by omega)).setCell (Nat.le_refl _) _, ⟨_, _, _, ?_, hd.setCell (Nat.le_refl _) _⟩, only_setCell w g 0 _⟩
    rw [heap_setCell_at HB.out]
    rfl
  · rename_i h
    go_ret
    have hd := hr.drop hk
    rw [if_neg h] at hd
    refine ⟨A, rfl, (hr.take hk (Nat.le_refl _) (by omega)).setCell (Nat.le_refl _) _, ⟨_, _, _, ?_, hd.setCell (Nat.le_refl _) _⟩, only_setCell w g 0 _⟩
    rw [heap_setCell_at HB.out]
    rfl

theorem bytes_bad (g : Nat) (s : St) (n : Int) (hn : s.bad = true ∨ n < 0 ∨ (s.l.length : Int) < n) (w : World) (h : IsRdr w g s) :
    Calls Try.prog 124 #[.pointer (some ⟨g, 0, none⟩), .int .i64 n] w fun e w' => e = .returned (.slice none 0 0) ∧ IsRdr w' g ⟨s.l, true⟩ ∧ w.grownBy w' (some g) := by
  have H := Lib.hid h
  obtain ⟨A, m, c, hblk, hr⟩ := h
  obtain ⟨c0, c1, f0, f1, hg⟩ := cells2 hblk
  obtain ⟨l, bad⟩ := s
  obtain rfl : l.length = m := hr.length
  clear hblk
  cases bad
  · by_cases hneg : n < 0
    · go_enter Try.func124, Try.ntmps124
      go_wp2_with (first | (go_at_call 112; refine (bad_any g _ _ H.out).mono ?_; rintro e w1 ⟨rfl, rfl⟩) | (go_at_call 123; refine (spoil_any g _ _ H.out).mono ?_; rintro e w1 ⟨rfl, hI, hG⟩))
      go_ret
      exact ⟨rfl, hI, hG⟩
    · have hbig : (l.length : Int) < n := by simpa [hneg] using hn
      go_enter Try.func124, Try.ntmps124
      go_wp2_with (first | (go_at_call 112; refine (bad_any g _ _ H.out).mono ?_; rintro e w1 ⟨rfl, rfl⟩) | (go_at_call 123; refine (spoil_any g _ _ H.out).mono ?_; rintro e w1 ⟨rfl, hI, hG⟩))
      go_ret
      exact ⟨rfl, hI, hG⟩
  · clear hn
    go_enter Try.func124, Try.ntmps124
    go_wp2_with (first | (go_at_call 112; refine (bad_any g _ _ H.out).mono ?_; rintro e w1 ⟨rfl, rfl⟩) | (go_at_call 123; refine (spoil_any g _ _ H.out).mono ?_; rintro e w1 ⟨rfl, hI, hG⟩))
    go_ret
    exact ⟨rfl, hI, hG⟩

/-- Bytes, whatever is asked -/
theorem bytes_any (g : Nat) (s : St) (n : Int) (w : World) (h : IsRdr w g s) :
    Calls Try.prog 124 #[.pointer (some ⟨g, 0, none⟩), .int .i64 n] w fun e w' => ∃ A, e = .returned (.slice A (s.bytes n).1.length (s.bytes n).1.length) ∧ RdB w' g A (s.bytes n).1.length (s.bytes n).1.length (s.bytes n).1 ∧ IsRdr w' g (s.bytes n).2 ∧ w.grownBy w' (some g) := by
  by_cases hn : s.bad = true ∨ n < 0 ∨ (s.l.length : Int) < n
  · rw [St.bytes_bad hn]
    refine (bytes_bad g s n hn w h).mono ?_
    rintro e w' ⟨rfl, h1, h2⟩
    exact ⟨none, rfl, RdB.nil, h1, h2⟩
  · obtain ⟨k, rfl⟩ := Int.eq_ofNat_of_zero_le (show 0 ≤ n by omega)
    obtain ⟨l, bad⟩ := s
    obtain rfl : bad = false := by cases bad <;> simp_all
    have hk : k ≤ l.length := by simp at hn; omega
    rw [St.bytes_ok rfl hk]
    refine (bytes_ok g l k hk w h).mono ?_
    rintro e w' ⟨A, rfl, h1, h2, h3⟩
    have e1 : (l.take k).length = k := by simp; omega
    exact ⟨A, by rw [e1], by rw [e1]; exact h1, h2, h3⟩

theorem u_bad (g : Nat) (s : St) (width : Int) (hn : width < 1 ∨ 8 < width) (w : World) (h : IsRdr w g s) :
    Calls Try.prog 111 #[.pointer (some ⟨g, 0, none⟩), .int .i64 width] w fun e w' => e = .returned (.int .u64 0) ∧ IsRdr w' g ⟨s.l, true⟩ ∧ w.grownBy w' (some g) := by
  by_cases h1 : width < 1
  · clear hn
    go_enter Try.func111, Try.ntmps111
    go_wp2_with (go_at_call 123; refine (spoil_any g _ _ h).mono ?_; rintro e w1 ⟨rfl, hI, hG⟩)
    go_ret
    exact ⟨rfl, hI, hG⟩
  · have h8 : 8 < width := by simpa [h1] using hn
    clear hn
    go_enter Try.func111, Try.ntmps111
    go_wp2_with (go_at_call 123; refine (spoil_any g _ _ h).mono ?_; rintro e w1 ⟨rfl, hI, hG⟩)
    go_ret
    exact ⟨rfl, hI, hG⟩

theorem u_ok (g : Nat) (s : St) (width : Int) (h1 : 1 ≤ width) (h8 : width ≤ 8) (w : World) (h : IsRdr w g s) :
    Calls Try.prog 111 #[.pointer (some ⟨g, 0, none⟩), .int .i64 width] w fun e w' => e = .returned (.int .u64 (num (s.bytes width).1 : Int)) ∧ IsRdr w' g (s.bytes width).2 ∧ w.grownBy w' (some g) := by
  have hlen : (s.bytes width).1.length ≤ 8 := by
    rcases s.bytes_length width with h | h
    · omega
    · rw [h]; simp
  have hby := bytes_any g s width w h
  generalize (s.bytes width).1 = l at *
  generalize (s.bytes width).2 = s2 at *
  have H := Lib.hid hby
  clear hby
  go_enter Try.func111, Try.ntmps111
  go_wp2_with (go_at_call 124; refine H.out.mono ?_; rintro e w1 ⟨A, rfl, hr, hI, hG⟩)
  clear H
  go_loop [5, 20] (fun v i => ∃ k : Nat, k ≤ l.length ∧ i = .int .i64 (k : Int) ∧ v = .int .u64 (num (l.take k) : Int)) (fun _ i => l.length - (intOf i).toNat)
  case atStart => exact ⟨0, Nat.zero_le _, rfl, rfl⟩
  case round =>
    obtain ⟨k, hk, rfl, rfl⟩ := hrel
    by_cases hlt : k < l.length
    · obtain ⟨b, off, rfl, hb, hc⟩ := hr.get hlt
      have hx := num_lt (l.take k)
      go_wp2
      go_round
      case rel =>
        refine ⟨k + 1, by omega, by go_num, ?_⟩
        rw [or_step _ _ (UInt8.toNat_lt _), List.take_succ_eq_append_getElem hlt, num_snoc]
      case measure => simp [intOf]; omega
    · obtain rfl : k = l.length := by omega
      go_wp2
      go_ret
      exact ⟨by simp, hI, hG⟩

/-- U, whatever is asked -/
theorem u_any (g : Nat) (s : St) (width : Int) (w : World) (h : IsRdr w g s) :
    Calls Try.prog 111 #[.pointer (some ⟨g, 0, none⟩), .int .i64 width] w fun e w' => e = .returned (.int .u64 ((s.u width).1 : Int)) ∧ IsRdr w' g (s.u width).2 ∧ w.grownBy w' (some g) := by
  unfold St.u
  by_cases hn : width < 1 ∨ 8 < width
  · rw [if_pos hn]
    exact u_bad g s width hn w h
  · rw [if_neg hn]
    exact u_ok g s width (by omega) (by omega) w h

theorem st_ext (s : St) (h : s.bad = true) : (⟨s.l, true⟩ : St) = s := by
  obtain ⟨l, b⟩ := s
  simp at h
  rw [h]

/-- New -/
theorem new_any (A : Option Addr) (n c : Nat) (l : List UInt8) (w : World) (hr : RdB w w.heap.size A n c l) (hn : n ≤ 1099511627776) :
    Calls Try.prog 110 #[.slice A n c] w fun e w' => ∃ g, e = .returned (.pointer (some ⟨g, 0, none⟩)) ∧ w.heap.size ≤ g ∧ IsRdr w' g ⟨l, false⟩ ∧ Below w.heap.size w w' := by
  go_enter Try.func110, Try.ntmps110
  go_wp2_with (go_at_call 54; refine (clone_any A n c l _ hr hn).mono ?_; rintro e w1 ⟨A2, c2, rfl, hown, hb⟩)
  go_ret
  exact ⟨w1.heap.size, rfl, hb.size, ⟨_, _, _, heap_alloc_new _ _, hown.rd.alloc (Nat.le_refl _) _⟩, hb.alloc hb.size _⟩

/-- Put at any width -/
theorem put_w (A : Option Addr) (n c : Nat) (l : List UInt8) (x : Nat) (width : Int) (w : World) (hr : RdB w w.heap.size A n c l) (hn : n ≤ 1099511627776) (hx : x < 18446744073709551616) :
    Calls Try.prog 89 #[.slice A n c, .int .u64 (x : Int), .int .i64 width] w fun e w' => ∃ A2 c2, e = .returned (.slice A2 (n + (putW x width).length) c2) ∧ OwnB w' w.heap.size A2 (n + (putW x width).length) c2 (l ++ putW x width) ∧ Below w.heap.size w w' := by
  by_cases hw : 1 ≤ width ∧ width ≤ 8
  · obtain ⟨k, rfl⟩ := Int.eq_ofNat_of_zero_le (show 0 ≤ width by omega)
    have e1 : putW x (k : Int) = putN x k := by unfold putW; rw [if_pos hw]; simp
    rw [e1, putN_length]
    exact put_any A n c l x k w hr hn hx (by omega) (by omega)
  · have e1 : putW x width = [] := by unfold putW; rw [if_neg hw]
    rw [e1, List.append_nil]
    clear e1
    by_cases h1 : width < 1
    · clear hw
      go_enter Try.func89, Try.ntmps89
      go_wp2_with (go_at_call 54; refine (clone_any A n c l _ hr hn).mono ?_; rintro e w1 ⟨A2, c2, rfl, hown, hb⟩)
      go_ret
      exact ⟨A2, c2, rfl, hown, hb⟩
    · have h8 : 8 < width := by omega
      clear hw
      go_enter Try.func89, Try.ntmps89
      go_wp2_with (go_at_call 54; refine (clone_any A n c l _ hr hn).mono ?_; rintro e w1 ⟨A2, c2, rfl, hown, hb⟩)
      go_ret
      exact ⟨A2, c2, rfl, hown, hb⟩
end Go.Proofs.Ytmoijbknjadeeaa
