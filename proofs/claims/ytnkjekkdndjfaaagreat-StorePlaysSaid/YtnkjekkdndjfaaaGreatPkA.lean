
/- pack.Put -/
import Derived.BigQuiet
import Derived.Deep.QuietTactic
import Derived.IntWalk
import Derived.Test.YtnkjekkdndjfaaaGreatBytes
import Derived.Test.YtnkjekkdndjfaaaGreatBase
namespace Go.Proofs.YtnkjekkdndjfaaaGreat
set_option linter.unusedSimpArgs false
set_option linter.unusedVariables false
open Go.RowKit

theorem byte_of (x j : Nat) : (x : Int) / 2 ^ (8 * j) % 256 = ((UInt8.ofNat (x / 256 ^ j)).toNat : Int) := by
  have h : (2 : Int) ^ (8 * j) = ((256 ^ j : Nat) : Int) := by rw [Int.pow_mul]; simp
  rw [UInt8.toNat_ofNat', h]
  simp

set_option maxHeartbeats 400000 in
theorem put_any (A : Option Addr) (n c : Nat) (l : List UInt8) (x width : Nat) (w : World) (hr : RdB w w.heap.size A n c l) (hn : n ≤ 1099511627776) (hx : x < 18446744073709551616) (h1 : 1 ≤ width) (h8 : width ≤ 8) :
    Calls Tryz.prog 74 #[.slice A n c, .int .u64 (x : Int), .int .i64 (width : Int)] w fun e w' => ∃ A2 c2, e = .returned (.slice A2 (n + width) c2) ∧ OwnB w' w.heap.size A2 (n + width) c2 (l ++ putN x width) ∧ Below w.heap.size w w' := by
  go_enter Tryz.func74, Tryz.ntmps74
  go_wp2_with (go_at_call 45; refine (clone_any A n c l _ hr hn).mono ?_; rintro e w1 ⟨A2, c2, rfl, hown, hb⟩)
  go_loopw [7, 8] (fun v i wr => ∃ (k : Int) (A3 : Option Addr) (c3 m : Nat), -1 ≤ k ∧ k < width ∧ i = .int .i64 k ∧ m + (k + 1).toNat = n + width ∧ v = .slice A3 m c3 ∧ OwnB wr w.heap.size A3 m c3 (l ++ putN (x / 256 ^ (k + 1).toNat) (width - (k + 1).toNat)) ∧ Below w.heap.size w wr) (fun _ i _ => (intOf i + 1).toNat)
  case atStart => exact ⟨_, _, _, _, by omega, by omega, rfl, by omega, rfl, by simpa [putN] using hown, hb⟩
  case round =>
    obtain ⟨k, A3, c3, m, hk1, hk2, rfl, hm, rfl, hown3, hb3⟩ := hrel
    by_cases hk : 0 ≤ k
    · obtain ⟨j, rfl⟩ := Int.eq_ofNat_of_zero_le hk
      have hbyte : (x : Int) / 2 ^ (8 * j) % 256 = ((UInt8.ofNat (x / 256 ^ j)).toNat : Int) := byte_of x j
      have Hb := Lib.hid hbyte
      clear hbyte
      go_wp2_with (at_builtin; refine app_u8 rfl (.tmp 24) (.tmp 30) rfl rfl (hown3.alloc _) rfl (RdB.one (b := UInt8.ofNat (x / 256 ^ j)) Hb.out) ?_ ?c1 ?c2; intro A4 c4 w2 hown4 hb4 _ _)
      case c1 => omega
      case c2 => have := hb3.size; simp; omega
      go_roundw
      case rel =>
        refine ⟨(j : Int) - 1, A4, c4, m + 1, by omega, by omega, rfl, by omega, rfl, ?_, (hb3.alloc hb3.size _).trans hb4⟩
        have e1 : ((j : Int) + 1).toNat = j + 1 := by omega
        have e2 : ((j : Int) - 1 + 1).toNat = j := by omega
        rw [e1, List.append_assoc] at hown4
        rw [e2]
        have e3 : width - j = width - (j + 1) + 1 := by omega
        rw [e3, putN, Nat.div_div_eq_div_mul, ← Nat.pow_succ]
        exact hown4
      case measure => simp [intOf]
    · go_wp2_with fail
      go_ret
      obtain rfl : k = -1 := by omega
      simp at hown3 hm
      subst hm
      exact ⟨A3, c3, rfl, hown3, hb3⟩
end Go.Proofs.YtnkjekkdndjfaaaGreat
namespace Go.Proofs.YtnkjekkdndjfaaaGreat
set_option linter.unusedSimpArgs false
set_option linter.unusedVariables false
open Go.RowKit

/-- the program's reader at block g -/
def IsRdr (w : World) (g : Nat) (s : St) : Prop := ∃ A n c, w.heap[g]? = some (.cells #[.slice A n c, .bool s.bad] 214) ∧ RdB w g A n c s.l

theorem cells2 {w : World} {g : Nat} {a b : Value} {t : TypeId} (h : w.heap[g]? = some (.cells #[a, b] t)) :
    w.cell? ⟨g, 0, none⟩ = some a ∧ w.cell? ⟨g, 1, none⟩ = some b ∧ w.frozen? ⟨g, 0, none⟩ = false ∧ w.frozen? ⟨g, 1, none⟩ = false ∧ g < w.heap.size := by
  refine ⟨by simp [World.cell?, h], by simp [World.cell?, h], by simp [World.frozen?, h], by simp [World.frozen?, h], (Array.getElem?_eq_some_iff.1 h).1⟩

theorem IsRdr.below {w w' : World} {g : Nat} {s : St} (h : IsRdr w g s) (hb : Below w.heap.size w w') : IsRdr w' g s := by
  obtain ⟨A, n, c, hblk, hr⟩ := h
  have hg := (Array.getElem?_eq_some_iff.1 hblk).1
  exact ⟨A, n, c, (hb.block g hg).trans hblk, hr.below (hb.mono (Nat.le_of_lt hg))⟩
theorem IsRdr.alloc {w : World} {g : Nat} {s : St} (h : IsRdr w g s) (o : Obj) : IsRdr (w.alloc o) g s := h.below ((Below.refl _ _).alloc (Nat.le_refl _) o)
theorem IsRdr.lt {w : World} {g : Nat} {s : St} (h : IsRdr w g s) : g < w.heap.size := by
  obtain ⟨A, n, c, hblk, hr⟩ := h
  exact (Array.getElem?_eq_some_iff.1 hblk).1

theorem bad_any (g : Nat) (s : St) (w : World) (h : IsRdr w g s) :
    Calls Tryz.prog 107 #[.pointer (some ⟨g, 0, none⟩)] w fun e w' => e = .returned (.bool s.bad) ∧ w = w' := by
  obtain ⟨A, n, c, hblk, hr⟩ := h
  obtain ⟨c0, c1, f0, f1, hg⟩ := cells2 hblk
  clear hblk
  go_enter Tryz.func107, Tryz.ntmps107
  go_wp2_with fail
  go_ret
  exact ⟨rfl, rfl⟩

theorem done_any (g : Nat) (s : St) (w : World) (h : IsRdr w g s) :
    Calls Tryz.prog 109 #[.pointer (some ⟨g, 0, none⟩)] w fun e w' => e = .returned (.bool (!s.bad && s.l.isEmpty)) ∧ w = w' := by
  have H := Lib.hid h
  obtain ⟨A, n, c, hblk, hr⟩ := h
  obtain ⟨c0, c1, f0, f1, hg⟩ := cells2 hblk
  obtain ⟨l, bad⟩ := s
  obtain rfl : l.length = n := hr.length
  clear hblk
  cases bad
  · rcases l with _ | ⟨x, l⟩
    all_goals
      go_enter Tryz.func109, Tryz.ntmps109
      go_wp2_with (go_at_call 107; refine (bad_any g _ _ H.out).mono ?_; rintro e w1 ⟨rfl, rfl⟩)
      go_ret
      refine ⟨?_, rfl⟩
      simp
    omega
  · go_enter Tryz.func109, Tryz.ntmps109
    go_wp2_with (go_at_call 107; refine (bad_any g _ _ H.out).mono ?_; rintro e w1 ⟨rfl, rfl⟩)
    go_ret
    exact ⟨by simp, rfl⟩

theorem heap_setCell_at {w : World} {g : Nat} {cs : Array Value} {t : TypeId} (h : w.heap[g]? = some (.cells cs t)) (i : Nat) (u : Value) : (w.setCell ⟨g, i, none⟩ u).heap[g]? = some (.cells (cs.setIfInBounds i u) t) := by
  simp [World.setCell, Array.getElem?_modify, h]

theorem only_setCell (w : World) (g i : Nat) (u : Value) : w.grownBy (w.setCell ⟨g, i, none⟩ u) (some g) :=
  ⟨rfl, rfl, rfl, by simp [World.setCell], fun k _ hne => Below.heap_setCell w ⟨g, i, none⟩ u k (fun e => hne (by rw [e]))⟩

theorem only_trans {a b c : World} {row : Option Nat} (h : a.grownBy b row) (k : b.grownBy c row) : a.grownBy c row :=
  ⟨k.os.trans h.os, k.tape.trans h.tape, k.output.trans h.output, Nat.le_trans h.size k.size, fun i hi hne => (k.block i (Nat.lt_of_lt_of_le hi h.size) hne).trans (h.block i hi hne)⟩

theorem only_below {w w' : World} {g B : Nat} (h : w.grownBy w' (some g)) (hB : B ≤ g) (hBw : B ≤ w.heap.size) : Below B w w' := (Below.refl _ _).grown h hBw (by intro k hk; injection hk with hk; omega)

/-- the reader behind a call that touches block g alone -/
theorem spoil_any (g : Nat) (s : St) (w : World) (h : IsRdr w g s) :
    Calls Tryz.prog 144 #[.pointer (some ⟨g, 0, none⟩)] w fun e w' => e = .returned (.tuple #[]) ∧ IsRdr w' g ⟨s.l, true⟩ ∧ w.grownBy w' (some g) := by
  obtain ⟨A, n, c, hblk, hr⟩ := h
  obtain ⟨c0, c1, f0, f1, hg⟩ := cells2 hblk
  go_enter Tryz.func144, Tryz.ntmps144
  go_wp2
  go_end0
  refine ⟨rfl, ⟨A, n, c, ?_, hr.setCell (Nat.le_refl _) _⟩, only_setCell w g 1 _⟩
  rw [heap_setCell_at hblk]
  rfl

theorem bytes_ok (g : Nat) (l : List UInt8) (k : Nat) (hk : k ≤ l.length) (w : World) (h : IsRdr w g ⟨l, false⟩) :
    Calls Tryz.prog 145 #[.pointer (some ⟨g, 0, none⟩), .int .i64 (k : Int)] w fun e w' => ∃ A, e = .returned (.slice A k k) ∧ RdB w' g A k k (l.take k) ∧ IsRdr w' g ⟨l.drop k, false⟩ ∧ w.grownBy w' (some g) := by
  have H := Lib.hid h
  obtain ⟨A, n, c, hblk, hr⟩ := h
  obtain ⟨c0, c1, f0, f1, hg⟩ := cells2 hblk
  obtain rfl : l.length = n := hr.length
  have hle := hr.le
  have hmax := hr.max
  unfold maxLen at hmax
  have HB := Lib.hid hblk
  clear hblk
  go_enter Tryz.func145, Tryz.ntmps145
  go_wp2_with (go_at_call 107; refine (bad_any g _ _ H.out).mono ?_; rintro e w1 ⟨rfl, rfl⟩)
  · rename_i h
    subst h
    go_ret
    have hd := hr.drop hk
    rw [if_pos rfl, Nat.sub_self] at hd
    refine ⟨A, rfl, (hr.take hk (Nat.le_refl _) (by omega)).setCell (Nat.le_refl _) _, ⟨_, _, _, ?_, hd.setCell (Nat.le_refl _) _⟩, only_setCell w g 0 _⟩
    rw [heap_setCell_at HB.out]
    rfl
  · rename_i h
    go_ret
    have hd := hr.drop hk
    rw [if_neg h] at hd
    refine ⟨A, rfl, (hr.take hk (Nat.le_refl _) (by omega)).setCell (Nat.le_refl _) _, ⟨_, _, _, ?_, hd.setCell (Nat.le_refl _) _⟩, only_setCell w g 0 _⟩
    rw [heap_setCell_at HB.out]
    rfl

theorem bytes_bad (g : Nat) (s : St) (n : Int) (hn : s.bad = true ∨ n < 0 ∨ (s.l.length : Int) < n) (w : World) (h : IsRdr w g s) :
    Calls Tryz.prog 145 #[.pointer (some ⟨g, 0, none⟩), .int .i64 n] w fun e w' => e = .returned (.slice none 0 0) ∧ IsRdr w' g ⟨s.l, true⟩ ∧ w.grownBy w' (some g) := by
  have H := Lib.hid h
  obtain ⟨A, m, c, hblk, hr⟩ := h
  obtain ⟨c0, c1, f0, f1, hg⟩ := cells2 hblk
  obtain ⟨l, bad⟩ := s
  obtain rfl : l.length = m := hr.length
  clear hblk
  cases bad
  · by_cases hneg : n < 0
    · go_enter Tryz.func145, Tryz.ntmps145
      go_wp2_with (first | (go_at_call 107; refine (bad_any g _ _ H.out).mono ?_; rintro e w1 ⟨rfl, rfl⟩) | (go_at_call 144; refine (spoil_any g _ _ H.out).mono ?_; rintro e w1 ⟨rfl, hI, hG⟩))
      go_ret
      exact ⟨rfl, hI, hG⟩
    · have hbig : (l.length : Int) < n := by simpa [hneg] using hn
      go_enter Tryz.func145, Tryz.ntmps145
      go_wp2_with (first | (go_at_call 107; refine (bad_any g _ _ H.out).mono ?_; rintro e w1 ⟨rfl, rfl⟩) | (go_at_call 144; refine (spoil_any g _ _ H.out).mono ?_; rintro e w1 ⟨rfl, hI, hG⟩))
      go_ret
      exact ⟨rfl, hI, hG⟩
  · clear hn
    go_enter Tryz.func145, Tryz.ntmps145
    go_wp2_with (first | (go_at_call 107; refine (bad_any g _ _ H.out).mono ?_; rintro e w1 ⟨rfl, rfl⟩) | (go_at_call 144; refine (spoil_any g _ _ H.out).mono ?_; rintro e w1 ⟨rfl, hI, hG⟩))
    go_ret
    exact ⟨rfl, hI, hG⟩

/-- Bytes, whatever is asked -/
theorem bytes_any (g : Nat) (s : St) (n : Int) (w : World) (h : IsRdr w g s) :
    Calls Tryz.prog 145 #[.pointer (some ⟨g, 0, none⟩), .int .i64 n] w fun e w' => ∃ A, e = .returned (.slice A (s.bytes n).1.length (s.bytes n).1.length) ∧ RdB w' g A (s.bytes n).1.length (s.bytes n).1.length (s.bytes n).1 ∧ IsRdr w' g (s.bytes n).2 ∧ w.grownBy w' (some g) := by
  by_cases hn : s.bad = true ∨ n < 0 ∨ (s.l.length : Int) < n
  · rw [St.bytes_bad hn]
    refine (bytes_bad g s n hn w h).mono ?_
    rintro e w' ⟨rfl, h1, h2⟩
    exact ⟨none, rfl, RdB.nil, h1, h2⟩
  · obtain ⟨k, rfl⟩ := Int.eq_ofNat_of_zero_le (show 0 ≤ n by omega)
    obtain ⟨l, bad⟩ := s
    obtain rfl : bad = false := by cases bad <;> simp_all
    have hk : k ≤ l.length := by simp at hn; omega
    rw [St.bytes_ok rfl hk]
    refine (bytes_ok g l k hk w h).mono ?_
    rintro e w' ⟨A, rfl, h1, h2, h3⟩
    have e1 : (l.take k).length = k := by simp; omega
    exact ⟨A, by rw [e1], by rw [e1]; exact h1, h2, h3⟩

theorem u_bad (g : Nat) (s : St) (width : Int) (hn : width < 1 ∨ 8 < width) (w : World) (h : IsRdr w g s) :
    Calls Tryz.prog 106 #[.pointer (some ⟨g, 0, none⟩), .int .i64 width] w fun e w' => e = .returned (.int .u64 0) ∧ IsRdr w' g ⟨s.l, true⟩ ∧ w.grownBy w' (some g) := by
  by_cases h1 : width < 1
  · clear hn
    go_enter Tryz.func106, Tryz.ntmps106
    go_wp2_with (go_at_call 144; refine (spoil_any g _ _ h).mono ?_; rintro e w1 ⟨rfl, hI, hG⟩)
    go_ret
    exact ⟨rfl, hI, hG⟩
  · have h8 : 8 < width := by simpa [h1] using hn
    clear hn
    go_enter Tryz.func106, Tryz.ntmps106
    go_wp2_with (go_at_call 144; refine (spoil_any g _ _ h).mono ?_; rintro e w1 ⟨rfl, hI, hG⟩)
    go_ret
    exact ⟨rfl, hI, hG⟩

theorem u_ok (g : Nat) (s : St) (width : Int) (h1 : 1 ≤ width) (h8 : width ≤ 8) (w : World) (h : IsRdr w g s) :
    Calls Tryz.prog 106 #[.pointer (some ⟨g, 0, none⟩), .int .i64 width] w fun e w' => e = .returned (.int .u64 (num (s.bytes width).1 : Int)) ∧ IsRdr w' g (s.bytes width).2 ∧ w.grownBy w' (some g) := by
  have hlen : (s.bytes width).1.length ≤ 8 := by
    rcases s.bytes_length width with h | h
    · omega
    · rw [h]; simp
  have hby := bytes_any g s width w h
  generalize (s.bytes width).1 = l at *
  generalize (s.bytes width).2 = s2 at *
  have H := Lib.hid hby
  clear hby
  go_enter Tryz.func106, Tryz.ntmps106
  go_wp2_with (go_at_call 145; refine H.out.mono ?_; rintro e w1 ⟨A, rfl, hr, hI, hG⟩)
  clear H
  go_loop [5, 20] (fun v i => ∃ k : Nat, k ≤ l.length ∧ i = .int .i64 (k : Int) ∧ v = .int .u64 (num (l.take k) : Int)) (fun _ i => l.length - (intOf i).toNat)
  case atStart => exact ⟨0, Nat.zero_le _, rfl, rfl⟩
  case round =>
    obtain ⟨k, hk, rfl, rfl⟩ := hrel
    by_cases hlt : k < l.length
    · obtain ⟨b, off, rfl, hb, hc⟩ := hr.get hlt
      have hx := num_lt (l.take k)
      go_wp2
      go_round
      case rel =>
        refine ⟨k + 1, by omega, by go_num, ?_⟩
        rw [or_step _ _ (UInt8.toNat_lt _), List.take_succ_eq_append_getElem hlt, num_snoc]
      case measure => simp [intOf]; omega
    · obtain rfl : k = l.length := by omega
      go_wp2
      go_ret
      exact ⟨by simp, hI, hG⟩

/-- U, whatever is asked -/
theorem u_any (g : Nat) (s : St) (width : Int) (w : World) (h : IsRdr w g s) :
    Calls Tryz.prog 106 #[.pointer (some ⟨g, 0, none⟩), .int .i64 width] w fun e w' => e = .returned (.int .u64 ((s.u width).1 : Int)) ∧ IsRdr w' g (s.u width).2 ∧ w.grownBy w' (some g) := by
  unfold St.u
  by_cases hn : width < 1 ∨ 8 < width
  · rw [if_pos hn]
    exact u_bad g s width hn w h
  · rw [if_neg hn]
    exact u_ok g s width (by omega) (by omega) w h

theorem st_ext (s : St) (h : s.bad = true) : (⟨s.l, true⟩ : St) = s := by
  obtain ⟨l, b⟩ := s
  simp at h
  rw [h]

/-- New -/
theorem new_any (A : Option Addr) (n c : Nat) (l : List UInt8) (w : World) (hr : RdB w w.heap.size A n c l) (hn : n ≤ 1099511627776) :
    Calls Tryz.prog 105 #[.slice A n c] w fun e w' => ∃ g, e = .returned (.pointer (some ⟨g, 0, none⟩)) ∧ w.heap.size ≤ g ∧ IsRdr w' g ⟨l, false⟩ ∧ Below w.heap.size w w' := by
  go_enter Tryz.func105, Tryz.ntmps105
  go_wp2_with (go_at_call 45; refine (clone_any A n c l _ hr hn).mono ?_; rintro e w1 ⟨A2, c2, rfl, hown, hb⟩)
  go_ret
  exact ⟨w1.heap.size, rfl, hb.size, ⟨_, _, _, heap_alloc_new _ _, hown.rd.alloc (Nat.le_refl _) _⟩, hb.alloc hb.size _⟩

/-- Put at any width -/
theorem put_w (A : Option Addr) (n c : Nat) (l : List UInt8) (x : Nat) (width : Int) (w : World) (hr : RdB w w.heap.size A n c l) (hn : n ≤ 1099511627776) (hx : x < 18446744073709551616) :
    Calls Tryz.prog 74 #[.slice A n c, .int .u64 (x : Int), .int .i64 width] w fun e w' => ∃ A2 c2, e = .returned (.slice A2 (n + (putW x width).length) c2) ∧ OwnB w' w.heap.size A2 (n + (putW x width).length) c2 (l ++ putW x width) ∧ Below w.heap.size w w' := by
  by_cases hw : 1 ≤ width ∧ width ≤ 8
  · obtain ⟨k, rfl⟩ := Int.eq_ofNat_of_zero_le (show 0 ≤ width by omega)
    have e1 : putW x (k : Int) = putN x k := by unfold putW; rw [if_pos hw]; simp
    rw [e1, putN_length]
    exact put_any A n c l x k w hr hn hx (by omega) (by omega)
  · have e1 : putW x width = [] := by unfold putW; rw [if_neg hw]
    rw [e1, List.append_nil]
    clear e1
    by_cases h1 : width < 1
    · clear hw
      go_enter Tryz.func74, Tryz.ntmps74
      go_wp2_with (go_at_call 45; refine (clone_any A n c l _ hr hn).mono ?_; rintro e w1 ⟨A2, c2, rfl, hown, hb⟩)
      go_ret
      exact ⟨A2, c2, rfl, hown, hb⟩
    · have h8 : 8 < width := by omega
      clear hw
      go_enter Tryz.func74, Tryz.ntmps74
      go_wp2_with (go_at_call 45; refine (clone_any A n c l _ hr hn).mono ?_; rintro e w1 ⟨A2, c2, rfl, hown, hb⟩)
      go_ret
      exact ⟨A2, c2, rfl, hown, hb⟩
end Go.Proofs.YtnkjekkdndjfaaaGreat
namespace Go.Proofs.YtnkjekkdndjfaaaGreat
set_option linter.unusedSimpArgs false
set_option linter.unusedVariables false
open Go.RowKit

set_option maxHeartbeats 400000 in
theorem ref_put (x width : Nat) (w : World) (hx : x < 18446744073709551616) (h1 : 1 ≤ width) (h8 : width ≤ 8) :
    Calls Tryz.prog 96 #[.int .u64 (x : Int), .int .i64 (width : Int)] w fun e w' => ∃ A, e = .returned (.slice A width width) ∧ OwnB w' w.heap.size A width width (putN x width) ∧ Below w.heap.size w w' := by
  go_enter Tryz.func96, Tryz.ntmps96
  go_wp2_with (at_make; refine make_u8 rfl (.tmp 13) (.tmp 13) rfl w.heap.size width rfl rfl ?_ ?c1 ?c2 ?c3 ?c4; intro w1 hown hb)
  case c1 => rfl
  case c2 => rfl
  case c3 => omega
  case c4 => omega
  go_loopw [0, 6] (fun v i wr => ∃ (k : Int), -1 ≤ k ∧ k < width ∧ i = .int .i64 k ∧ v = .int .u64 ((x / 256 ^ (width - (k + 1).toNat) : Nat) : Int) ∧ OwnB wr w.heap.size (some ⟨w.heap.size, 0, none⟩) width width (List.replicate (k + 1).toNat 0 ++ putN x (width - (k + 1).toNat)) ∧ Below w.heap.size w wr) (fun _ i _ => (intOf i + 1).toNat)
  case atStart => exact ⟨_, by omega, by omega, rfl, by simp, by simpa [putN] using hown, hb⟩
  case round =>
    obtain ⟨k, hk1, hk2, rfl, rfl, hown3, hb3⟩ := hrel
    by_cases hk : 0 ≤ k
    · obtain ⟨j, rfl⟩ := Int.eq_ofNat_of_zero_le hk
      have e1 : ((j : Int) + 1).toNat = j + 1 := by omega
      have e0 : ((j : Int) - 1 + 1).toNat = j := by omega
      simp only [e1] at hown3 ⊢
      clear e1
      obtain ⟨hc, hf⟩ := hown3.at_ (k := j) (by simp; omega)
      generalize hyd : x / 256 ^ (width - (j + 1)) = y at *
      have hy : y < 18446744073709551616 := by rw [← hyd]; exact Nat.lt_of_le_of_lt (Nat.div_le_self _ _) hx
      have HD := Lib.hid hyd
      have HE := Lib.hid e0
      clear hyd e0
      go_wp2
      go_roundw
      case rel =>
        obtain ⟨s1, s2, _⟩ := hown3.set j (UInt8.ofNat y) (v := (y : Int) % 256) (by rw [UInt8.toNat_ofNat']; simp)
        refine ⟨(j : Int) - 1, by omega, by omega, rfl, ?_, ?_, hb3.trans s2⟩
        · rw [HE.out, ← HD.out, show width - j = width - (j + 1) + 1 from by omega, Nat.pow_succ, ← Nat.div_div_eq_div_mul]
          simp
        · rw [HE.out]
          have e2 : (List.replicate (j + 1) 0 ++ putN x (width - (j + 1))).set j (UInt8.ofNat y) = List.replicate j 0 ++ putN x (width - j) := by
            rw [show width - j = width - (j + 1) + 1 from by omega, putN_cons, HD.out, List.replicate_succ', List.append_assoc, List.set_append_right _ _ (by simp)]
            simp
          rw [e2] at s1
          exact s1
      case measure => simp [intOf]
    · obtain rfl : k = -1 := by omega
      go_wp2
      go_ret
      simp at hown3
      exact ⟨_, rfl, hown3, hb3⟩

theorem ref_put_w (x : Nat) (width : Int) (w : World) (hx : x < 18446744073709551616) :
    Calls Tryz.prog 96 #[.int .u64 (x : Int), .int .i64 width] w fun e w' => ∃ A, e = .returned (.slice A (putW x width).length (putW x width).length) ∧ OwnB w' w.heap.size A (putW x width).length (putW x width).length (putW x width) ∧ Below w.heap.size w w' := by
  by_cases hw : 1 ≤ width ∧ width ≤ 8
  · obtain ⟨k, rfl⟩ := Int.eq_ofNat_of_zero_le (show 0 ≤ width by omega)
    have e1 : putW x (k : Int) = putN x k := by unfold putW; rw [if_pos hw]; simp
    rw [e1, putN_length]
    exact ref_put x k w hx (by omega) (by omega)
  · have e1 : putW x width = [] := by unfold putW; rw [if_neg hw]
    rw [e1]
    clear e1
    by_cases h1 : width < 1
    · clear hw
      go_enter Tryz.func96, Tryz.ntmps96
      go_wp2
      go_ret
      exact ⟨none, rfl, OwnB.nil, Below.refl _ _⟩
    · have h8 : 8 < width := by omega
      clear hw
      go_enter Tryz.func96, Tryz.ntmps96
      go_wp2
      go_ret
      exact ⟨none, rfl, OwnB.nil, Below.refl _ _⟩

theorem add_step (x c : Nat) (hc : c < 256) : IntKind.u64.wrap (IntKind.u64.wrap ((x : Int) * 256) + IntKind.u64.wrap (c : Int)) = (((x * 256 + c) % 18446744073709551616 : Nat) : Int) := by
  simp only [IntKind.wrap_u64]
  omega

theorem ref_num (A : Option Addr) (n c : Nat) (B : Nat) (l : List UInt8) (w : World) (hr : RdB w B A n c l) :
    Calls Tryz.prog 152 #[.slice A n c] w fun e w' => e = .returned (.int .u64 (num l : Int)) ∧ w = w' := by
  obtain rfl : l.length = n := hr.length
  have hle := hr.le
  have hmax := hr.max
  unfold maxLen at hmax
  go_enter Tryz.func152, Tryz.ntmps152
  go_wp2
  go_loop [3, 8] (fun v i => ∃ k : Nat, k ≤ l.length ∧ i = .int .i64 (k : Int) ∧ v = .int .u64 (num (l.take k) : Int)) (fun _ i => l.length - (intOf i).toNat)
  case atStart => exact ⟨0, Nat.zero_le _, rfl, rfl⟩
  case round =>
    obtain ⟨k, hk, rfl, rfl⟩ := hrel
    by_cases hlt : k < l.length
    · obtain ⟨b, off, rfl, hb, hc⟩ := hr.get hlt
      have hx := num_lt (l.take k)
      go_wp2
      go_round
      case rel =>
        refine ⟨k + 1, by omega, by go_num, ?_⟩
        rw [List.take_succ_eq_append_getElem hlt, num_snoc, ← add_step _ _ (UInt8.toNat_lt _)]
      case measure => simp [intOf]; omega
    · obtain rfl : k = l.length := by omega
      go_wp2
      go_ret
      exact ⟨by simp, rfl⟩

theorem cells3 {w : World} {g : Nat} {a b d : Value} {t : TypeId} (h : w.heap[g]? = some (.cells #[a, b, d] t)) :
    w.cell? ⟨g, 0, none⟩ = some a ∧ w.cell? ⟨g, 1, none⟩ = some b ∧ w.cell? ⟨g, 2, none⟩ = some d ∧ w.frozen? ⟨g, 0, none⟩ = false ∧ w.frozen? ⟨g, 1, none⟩ = false ∧ w.frozen? ⟨g, 2, none⟩ = false ∧ g < w.heap.size := by
  refine ⟨by simp [World.cell?, h], by simp [World.cell?, h], by simp [World.cell?, h], by simp [World.frozen?, h], by simp [World.frozen?, h], by simp [World.frozen?, h], (Array.getElem?_eq_some_iff.1 h).1⟩

theorem only_drewN {w w' : World} {row : Option Nat} (h : w.grownBy w' row) (k : Nat) : w.grownBy (w'.drewN k) row := ⟨h.os, h.tape, h.output, h.size, h.block⟩
theorem drewN_only {w w' : World} {row : Option Nat} {k : Nat} (h : (w.drewN k).grownBy w' row) : w.grownBy w' row := ⟨h.os, h.tape, h.output, h.size, h.block⟩

end Go.Proofs.YtnkjekkdndjfaaaGreat
namespace Go.Proofs.YtnkjekkdndjfaaaGreat
set_option linter.unusedSimpArgs false
set_option linter.unusedVariables false
open Go.RowKit

theorem IsRdr.other {w w' : World} {g g2 : Nat} {s : St} (h : IsRdr w g s) (hG : w.grownBy w' (some g2)) (hne : g < g2) : IsRdr w' g s := by
  obtain ⟨A, n, c, hblk, hr⟩ := h
  have hg := (Array.getElem?_eq_some_iff.1 hblk).1
  exact ⟨A, n, c, (hG.block g hg (by intro e; injection e with e; omega)).trans hblk, hr.below (only_below hG (Nat.le_of_lt hne) (Nat.le_of_lt hg))⟩
theorem IsRdr.drew {w : World} {g : Nat} {s : St} (h : IsRdr w g s) : IsRdr w.drew g s := h.below ⟨rfl, rfl, rfl, Nat.le_refl _, fun _ _ => rfl⟩
theorem IsRdr.drewN {w : World} {g : Nat} {s : St} (h : IsRdr w g s) (k : Nat) : IsRdr (w.drewN k) g s := h.below ⟨rfl, rfl, rfl, Nat.le_refl _, fun _ _ => rfl⟩
theorem cell_other {w w' : World} {g b i : Nat} {v : Value} (hG : w.grownBy w' (some g)) (h : w.cell? ⟨b, i, none⟩ = some v) (hne : b ≠ g) : w'.cell? ⟨b, i, none⟩ = some v :=
  hG.cell h (by intro e; injection e with e; exact hne e)

theorem quiet_same {P : Program} {f : FuncId} {args : Array Value} {w : World} {n : Nat} {v : Value}
    (h : Calls P f args (w.drewN n) fun e w' => e = .returned v ∧ w.drewN n = w') : Calls P f args (w.drewN n) fun e w'' => e = .returned v ∧ ∃ m, w'' = w.drewN m :=
  h.mono fun _ _ ⟨he, hm⟩ => ⟨he, n, hm.symm⟩
theorem quiet_drew {P : Program} {f : FuncId} {args : Array Value} {w : World} {n : Nat} {v : Value}
    (h : Calls P f args (w.drewN n) fun e w' => e = .returned v ∧ ∃ m, w' = (w.drewN n).drewN m) : Calls P f args (w.drewN n) fun e w'' => e = .returned v ∧ ∃ m, w'' = w.drewN m :=
  h.mono fun _ _ ⟨he, m, hm⟩ => ⟨he, n + m, by rw [hm, World.drewN_drewN]⟩
end Go.Proofs.YtnkjekkdndjfaaaGreat
