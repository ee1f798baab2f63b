/- The reference's reader: Bytes, U, Text whatever is asked. -/
import Derived.Test.YtkohfgkokboghaaRef03
namespace Go.Proofs.Ytkohfgkokboghaa
set_option linter.unusedSimpArgs false
set_option linter.unusedVariables false
open Go.RowKit

theorem rbytes_any (B g : Nat) (s : St) (n : Int) (w : World) (hB : B ≤ g) (h : IsRef w B g s) :
    Calls Try.prog 33 #[.pointer (some ⟨g, 0, none⟩), .int .i64 n] w fun e w' => ∃ A c, e = .returned (.slice A (s.bytes n).1.length c) ∧ RdB w' B A (s.bytes n).1.length c (s.bytes n).1 ∧ IsRef w' B g (s.bytes n).2 ∧ w.grownBy w' (some g) := by
  by_cases hn : s.bad = true ∨ n < 0 ∨ (s.l.length : Int) < n
  · rw [St.bytes_bad hn]
    refine (rbytes_bad B g s n hn w hB h).mono ?_
    rintro e w' ⟨rfl, h1, h2⟩
    exact ⟨none, 0, rfl, RdB.nil, h1, h2⟩
  · obtain ⟨k, rfl⟩ := Int.eq_ofNat_of_zero_le (show 0 ≤ n by omega)
    obtain ⟨l, bad⟩ := s
    obtain rfl : bad = false := by cases bad <;> simp_all
    have hk : k ≤ l.length := by simp at hn; omega
    rw [St.bytes_ok rfl hk]
    refine (rbytes_ok B g l k hk w hB h).mono ?_
    rintro e w' ⟨A, c, rfl, h1, h2, h3⟩
    have e1 : (l.take k).length = k := by simp; omega
    exact ⟨A, c, by rw [e1], by rw [e1]; exact h1, h2, h3⟩

theorem rspoil {B g : Nat} {s : St} {w : World} (hB : B ≤ g) (h : IsRef w B g s) :
    w.cell? ⟨g, 2, none⟩ = some (.bool s.bad) ∧ w.frozen? ⟨g, 2, none⟩ = false ∧ (w.setCell ⟨g, 2, none⟩ (.bool true)).cell? ⟨g, 2, none⟩ = some (.bool true) ∧ IsRef (w.setCell ⟨g, 2, none⟩ (.bool true)) B g ⟨s.l, true⟩ ∧ w.grownBy (w.setCell ⟨g, 2, none⟩ (.bool true)) (some g) := by
  obtain ⟨A, n, c, b, k, hblk, hr, hk, hl⟩ := h
  obtain ⟨c0, c1, c2, f0, f1, f2, hg⟩ := cells3 hblk
  have h2 := heap_setCell_at hblk 2 (.bool true)
  exact ⟨c2, f2, (cells3 h2).2.2.1, ⟨A, n, c, b, k, h2, hr.setCell hB _, hk, hl⟩, only_setCell _ g 2 _⟩

theorem ru_any (B g : Nat) (s : St) (width : Int) (w : World) (hB : B ≤ g) (h : IsRef w B g s) :
    Calls Try.prog 31 #[.pointer (some ⟨g, 0, none⟩), .int .i64 width] w fun e w' => e = .returned (.int .u64 ((s.u width).1 : Int)) ∧ IsRef w' B g (s.u width).2 ∧ w.grownBy w' (some g) := by
  obtain ⟨c2, f2, c2', hI, hG⟩ := rspoil hB h
  by_cases hn : width < 1 ∨ 8 < width
  · have e1 : s.u width = (0, ⟨s.l, true⟩) := by unfold St.u; rw [if_pos hn]
    rw [e1]
    clear e1
    by_cases h1 : width < 1
    · clear hn
      go_enter Try.func31, Try.ntmps31
      go_wp2_with fail
      go_ret
      exact ⟨rfl, hI, hG⟩
    · have h8 : 8 < width := by simpa [h1] using hn
      clear hn
      go_enter Try.func31, Try.ntmps31
      go_wp2_with fail
      go_ret
      exact ⟨rfl, hI, hG⟩
  · have e1 : s.u width = (num (s.bytes width).1, (s.bytes width).2) := by unfold St.u; rw [if_neg hn]
    rw [e1]
    clear e1
    have h1 : 1 ≤ width := by omega
    have h8 : width ≤ 8 := by omega
    clear hn
    have hby := rbytes_any B g s width w hB h
    by_cases hbad : s.bad = true
    · rw [hbad] at c2
      have e2 : s.bytes width = ([], s) := by rw [St.bytes_bad (.inl hbad), st_ext s hbad]
      rw [e2]
      clear e2 hby hbad
      go_enter Try.func31, Try.ntmps31
      go_wp2_with fail
      go_ret
      exact ⟨rfl, h, World.grownBy.refl _ _⟩
    · rw [show s.bad = false by simpa using hbad] at c2
      generalize (s.bytes width).1 = l at *
      generalize (s.bytes width).2 = s2 at *
      have H := Lib.hid hby
      clear hby hbad
      go_enter Try.func31, Try.ntmps31
      go_wp2_with (first | (go_at_call 33; refine H.out.mono ?_; rintro e w1 ⟨A, c, rfl, hr1, hI1, hG1⟩) | (go_at_call 30; refine (ref_num _ _ _ _ _ _ hr1).mono ?_; rintro e w2 ⟨rfl, rfl⟩))
      go_ret
      exact ⟨rfl, hI1, hG1⟩

theorem rtext_any (B g : Nat) (s : St) (w : World) (hB : B ≤ g) (h : IsRef w B g s) :
    Calls Try.prog 32 #[.pointer (some ⟨g, 0, none⟩)] w fun e w' => e = .returned (.string ⟨s.text.1.toArray⟩) ∧ IsRef w' B g s.text.2 ∧ w.grownBy w' (some g) := by
  have hlt := s.u_one_lt
  have hu := ru_any B g s 1 w hB h
  unfold St.text
  generalize (s.u 1).1 = n at *
  generalize (s.u 1).2 = s1 at *
  have HU := Lib.hid hu
  clear hu
  by_cases h64 : 64 < n
  · have hsp : s1.spoilt n = ⟨s1.l, true⟩ := by simp [St.spoilt, h64]
    rw [hsp]
    clear hsp
    generalize hr : St.bytes ⟨s1.l, true⟩ (n : Int) = r
    have HR := Lib.hid hr
    clear hr
    go_enter Try.func32, Try.ntmps32
    go_wp2_with (first | (go_at_call 31; refine HU.out.mono ?_; rintro e w1 ⟨rfl, hI1, hG1⟩; obtain ⟨c2, f2, c2', hI2, hG2⟩ := rspoil hB hI1) | (go_at_call 33; refine (rbytes_any B g _ _ _ hB hI2).mono ?_; rintro e w3 ⟨A, c, rfl, hr3, hI3, hG3⟩; have hcv := conv_str hr3))
    go_ret
    rw [← HR.out]
    exact ⟨rfl, hI3, only_trans hG1 (only_trans hG2 hG3)⟩
  · have hsp : s1.spoilt n = s1 := by simp [St.spoilt, h64]
    rw [hsp]
    clear hsp
    go_enter Try.func32, Try.ntmps32
    go_wp2_with (first | (go_at_call 31; refine HU.out.mono ?_; rintro e w1 ⟨rfl, hI1, hG1⟩) | (go_at_call 33; refine (rbytes_any B g _ _ _ hB hI1).mono ?_; rintro e w3 ⟨A, c, rfl, hr3, hI3, hG3⟩; have hcv := conv_str hr3))
    go_ret
    exact ⟨rfl, hI3, only_trans hG1 hG3⟩

theorem IsRef.other {w w' : World} {B g g2 : Nat} {s : St} (h : IsRef w B g2 s) (hG : w.grownBy w' (some g)) (hne : g2 ≠ g) (hB : B ≤ g) (hBw : B ≤ w.heap.size) : IsRef w' B g2 s := by
  obtain ⟨A, n, c, b, k, hblk, hr, hk, hl⟩ := h
  have hg := (Array.getElem?_eq_some_iff.1 hblk).1
  exact ⟨A, n, c, b, k, (hG.block g2 hg (by intro e; injection e with e; exact hne e)).trans hblk, hr.below (only_below hG hB hBw), hk, hl⟩
theorem IsRdr.other {w w' : World} {g g2 : Nat} {s : St} (h : IsRdr w g s) (hG : w.grownBy w' (some g2)) (hne : g < g2) : IsRdr w' g s := by
  obtain ⟨A, n, c, hblk, hr⟩ := h
  have hg := (Array.getElem?_eq_some_iff.1 hblk).1
  exact ⟨A, n, c, (hG.block g hg (by intro e; injection e with e; omega)).trans hblk, hr.below (only_below hG (Nat.le_of_lt hne) (Nat.le_of_lt hg))⟩
theorem IsRef.below {w w' : World} {B g : Nat} {s : St} (h : IsRef w B g s) (hb : Below w.heap.size w w') (hB : B ≤ w.heap.size) : IsRef w' B g s := by
  obtain ⟨A, n, c, b, k, hblk, hr, hk, hl⟩ := h
  have hg := (Array.getElem?_eq_some_iff.1 hblk).1
  exact ⟨A, n, c, b, k, (hb.block g hg).trans hblk, hr.below (hb.mono hB), hk, hl⟩
theorem IsRef.lt {w : World} {B g : Nat} {s : St} (h : IsRef w B g s) : g < w.heap.size := by
  obtain ⟨A, n, c, b, k, hblk, hr, hk, hl⟩ := h
  exact (Array.getElem?_eq_some_iff.1 hblk).1
theorem IsRef.cell {w : World} {B g : Nat} {s : St} (h : IsRef w B g s) : w.cell? ⟨g, 2, none⟩ = some (.bool s.bad) := by
  obtain ⟨A, n, c, b, k, hblk, hr, hk, hl⟩ := h
  exact (cells3 hblk).2.2.1

theorem IsRdr.drew {w : World} {g : Nat} {s : St} (h : IsRdr w g s) : IsRdr w.drew g s := h.below ⟨rfl, rfl, rfl, Nat.le_refl _, fun _ _ => rfl⟩
theorem IsRdr.drewN {w : World} {g : Nat} {s : St} (h : IsRdr w g s) (k : Nat) : IsRdr (w.drewN k) g s := h.below ⟨rfl, rfl, rfl, Nat.le_refl _, fun _ _ => rfl⟩
theorem IsRef.drew {w : World} {B g : Nat} {s : St} (h : IsRef w B g s) (hB : B ≤ w.heap.size) : IsRef w.drew B g s := h.below ⟨rfl, rfl, rfl, Nat.le_refl _, fun _ _ => rfl⟩ hB
theorem IsRef.drewN {w : World} {B g : Nat} {s : St} (h : IsRef w B g s) (hB : B ≤ w.heap.size) (k : Nat) : IsRef (w.drewN k) B g s := h.below ⟨rfl, rfl, rfl, Nat.le_refl _, fun _ _ => rfl⟩ hB
theorem cell_other {w w' : World} {g b i : Nat} {v : Value} (hG : w.grownBy w' (some g)) (h : w.cell? ⟨b, i, none⟩ = some v) (hne : b ≠ g) : w'.cell? ⟨b, i, none⟩ = some v :=
  hG.cell h (by intro e; injection e with e; exact hne e)

theorem quiet_same {P : Program} {f : FuncId} {args : Array Value} {w : World} {n : Nat} {v : Value}
    (h : Calls P f args (w.drewN n) fun e w' => e = .returned v ∧ w.drewN n = w') : Calls P f args (w.drewN n) fun e w'' => e = .returned v ∧ ∃ m, w'' = w.drewN m :=
  h.mono fun _ _ ⟨he, hm⟩ => ⟨he, n, hm.symm⟩
theorem quiet_drew {P : Program} {f : FuncId} {args : Array Value} {w : World} {n : Nat} {v : Value}
    (h : Calls P f args (w.drewN n) fun e w' => e = .returned v ∧ ∃ m, w' = (w.drewN n).drewN m) : Calls P f args (w.drewN n) fun e w'' => e = .returned v ∧ ∃ m, w'' = w.drewN m :=
  h.mono fun _ _ ⟨he, m, hm⟩ => ⟨he, n + m, by rw [hm, World.drewN_drewN]⟩
end Go.Proofs.Ytkohfgkokboghaa
