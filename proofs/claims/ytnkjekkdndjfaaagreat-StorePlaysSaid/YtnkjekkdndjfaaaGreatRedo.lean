
/- Chapter 10: redo's functions on effects; the reference's; the chapter's helpers. -/
import Derived.Test.YtnkjekkdndjfaaaGreatPkA
import Derived.Test.YtnkjekkdndjfaaaGreatEffPure
import Derived.Test.YtnkjekkdndjfaaaGreatRgA
namespace Go.Proofs.YtnkjekkdndjfaaaGreat
set_option linter.unusedVariables false
set_option linter.unusedSimpArgs false
open Go.RowKit

def Eff.cells (e : Eff) : Array Value := #[.string e.k, .string e.v, .int .i64 e.r, .bool e.g]
def Eff.val (e : Eff) : Value := .agg e.cells
def Eff.fits (e : Eff) : Prop := e.k.size ≤ maxLen ∧ e.v.size ≤ maxLen ∧ -9223372036854775808 ≤ e.r ∧ e.r < 9223372036854775808
theorem str_nil {s : ByteArray} (h : s.size = 0) : s = ⟨#[]⟩ := by
  obtain ⟨⟨l⟩⟩ := s
  have : l = [] := List.eq_nil_of_length_eq_zero h
  subst this
  rfl
theorem str_some {s : ByteArray} (h : s.size ≠ 0) : s.toList.isEmpty = false := by
  rw [ByteArray.toList_eq]
  cases hl : s.data.toList with
  | nil =>
    exfalso
    apply h
    rw [show s.size = s.data.toList.length from by rw [Array.length_toList]; rfl, hl]
    rfl
  | cons _ _ => rfl

theorem cells4 {w : World} {g : Nat} {a b c d : Value} {t : TypeId} (h : w.heap[g]? = some (.cells #[a, b, c, d] t)) :
    w.cell? ⟨g, 0, none⟩ = some a ∧ w.cell? ⟨g, 1, none⟩ = some b ∧ w.cell? ⟨g, 2, none⟩ = some c ∧ w.cell? ⟨g, 3, none⟩ = some d := by
  refine ⟨by simp [World.cell?, h], by simp [World.cell?, h], by simp [World.cell?, h], by simp [World.cell?, h]⟩
theorem at_below {w w' : World} {g : Nat} {o : Obj} (h : w.heap[g]? = some o) (hb : Below w.heap.size w w') : w'.heap[g]? = some o :=
  (hb.block g (Array.getElem?_eq_some_iff.1 h).1).trans h
theorem right_any (e : Eff) (w : World) :
    Calls Tryz.prog 114 #[e.val] w fun x w' => x = .returned (.bool (decide e.right)) ∧ Below w.heap.size w w' := by
  obtain ⟨k, v, r, g⟩ := e
  have hb : Below w.heap.size w (w.alloc (.cells (Eff.cells ⟨k, v, r, g⟩) 115)) := (Below.refl _ _).alloc (Nat.le_refl _) _
  unfold Eff.val Eff.cells at *
  simp only at *
  by_cases h1 : k.size = 0
  · obtain rfl := str_nil h1
    rw [decide_eq_false (by unfold Eff.right; rintro ⟨a, _⟩; exact absurd (show 1 ≤ (0 : Nat) from a) (by decide))]
    go_enter Tryz.func114, Tryz.ntmps114
    go_wp2
    go_ret
    exact ⟨rfl, hb⟩
  have hk := str_some h1
  by_cases h2 : 128 < k.size
  · rw [decide_eq_false (by unfold Eff.right; rintro ⟨_, a, _⟩; simp at a; omega)]
    go_enter Tryz.func114, Tryz.ntmps114
    go_wp2
    go_ret
    exact ⟨rfl, hb⟩
  by_cases h3 : 65536 < v.size
  · rw [decide_eq_false (by unfold Eff.right; rintro ⟨_, _, a, _⟩; simp at a; omega)]
    go_enter Tryz.func114, Tryz.ntmps114
    go_wp2
    go_ret
    exact ⟨rfl, hb⟩
  by_cases h4 : r ≤ 0
  · rw [decide_eq_false (by unfold Eff.right; rintro ⟨_, _, _, a, _⟩; simp at a; omega)]
    go_enter Tryz.func114, Tryz.ntmps114
    go_wp2
    go_ret
    exact ⟨rfl, hb⟩
  cases g
  · rw [decide_eq_true (by unfold Eff.right; simp; omega)]
    go_enter Tryz.func114, Tryz.ntmps114
    go_wp2
    go_ret
    exact ⟨rfl, hb⟩
  · by_cases h5 : v.size = 0
    · obtain rfl := str_nil h5
      rw [decide_eq_true (by refine ⟨by simp only; omega, by simp only; omega, Nat.zero_le _, by simp only; omega, fun _ => rfl⟩)]
      go_enter Tryz.func114, Tryz.ntmps114
      go_wp2
      go_ret
      exact ⟨rfl, hb⟩
    · have hv := str_some h5
      rw [decide_eq_false (by rintro ⟨_, _, _, _, a⟩; exact h5 (a rfl))]
      go_enter Tryz.func114, Tryz.ntmps114
      go_wp2
      go_ret
      exact ⟨rfl, hb⟩

theorem long_any (A : Option Addr) (n c : Nat) (l : List UInt8) (s : ByteArray) (w : World) (hr : RdB w w.heap.size A n c l) (hn : n ≤ 1099511627776) (hs : s.size ≤ 1099511627776) :
    Calls Tryz.prog 75 #[.slice A n c, .string s] w fun e w' => ∃ A2 c2, e = .returned (.slice A2 (n + (4 + s.size)) c2) ∧ OwnB w' w.heap.size A2 (n + (4 + s.size)) c2 (l ++ longL s) ∧ Below w.heap.size w w' := by
  have hput := put_any A n c l s.size 4 w hr hn (by omega) (by omega) (by omega)
  have HP := Lib.hid hput
  clear hput
  go_enter Tryz.func75, Tryz.ntmps75
  go_wp2_with fail
  refine HP.out.mono ?_
  rintro e w1 ⟨A1, c1, rfl, hown1, hb1⟩
  go_wp2_with (at_builtin; refine app_str rfl (.tmp 9) (.tmp 10) rfl rfl hown1 rfl ?_ ?c1 ?c2; intro A2 c2 w2 hown2 hb2 _)
  case c1 => omega
  case c2 => exact hb1.size
  go_ret
  rw [List.append_assoc, Nat.add_assoc] at hown2
  exact ⟨A2, c2, by simp [Nat.add_assoc], hown2, hb1.trans hb2⟩
theorem rlong_any (s : ByteArray) (w : World) (hs : s.size ≤ 1099511627776) :
    Calls Tryz.prog 97 #[.string s] w fun e w' => e = .returned (.string ⟨(longL s).toArray⟩) ∧ Below w.heap.size w w' := by
  have hcat : (⟨(putN s.size 4).toArray⟩ ++ s : ByteArray) = ⟨(longL s).toArray⟩ := cat_str (putN s.size 4) s.data.toList
  have hsm : ¬ 9223372036854775807 < (putN s.size 4).length + s.size := by rw [putN_length]; omega
  have hput := ref_put s.size 4 w (by omega) (by omega) (by omega)
  generalize putN s.size 4 = q at *
  have HP := Lib.hid hput
  clear hput
  go_enter Tryz.func97, Tryz.ntmps97
  go_wp2_with fail
  refine HP.out.mono ?_
  rintro e w1 ⟨A1, rfl, hown1, hb1⟩
  have k1 := conv_str hown1.rd
  go_wp2_with fail
  go_ret
  exact ⟨rfl, hb1⟩

/-- redo.Put -/
theorem eput_bad (e : Eff) (w : World) (h : ¬ e.right) :
    Calls Tryz.prog 72 #[e.val] w fun x w' => x = .returned (.tuple #[.slice none 0 0, .int .i64 1]) ∧ Below w.heap.size w w' := by
  have hb0 : Below w.heap.size w (w.alloc (.cells e.cells 115)) := (Below.refl _ _).alloc (Nat.le_refl _) _
  have hri := right_any e (w.alloc (.cells e.cells 115))
  rw [decide_eq_false h] at hri
  unfold Eff.val Eff.cells at *
  have HR := Lib.hid hri
  clear hri
  go_enter Tryz.func72, Tryz.ntmps72
  go_wp2_with fail
  refine HR.out.mono ?_
  rintro x w1 ⟨rfl, hb1⟩
  go_wp2_with fail
  go_ret2
  exact ⟨rfl, chain hb0 hb1⟩
set_option maxRecDepth 100000 in
set_option maxHeartbeats 1000000 in
theorem eput_ok (e : Eff) (w : World) (h : e.right) (hr : e.r < 9223372036854775808) :
    Calls Tryz.prog 72 #[e.val] w fun x w' => ∃ A c, x = .returned (.tuple #[.slice A (17 + e.k.size + e.v.size) c, .int .i64 0]) ∧ OwnB w' w.heap.size A (17 + e.k.size + e.v.size) c (effL e) ∧ Below w.heap.size w w' := by
  have hb0 : Below w.heap.size w (w.alloc (.cells e.cells 115)) := (Below.refl _ _).alloc (Nat.le_refl _) _
  have hri := right_any e (w.alloc (.cells e.cells 115))
  rw [decide_eq_true h] at hri
  have hcell := heap_alloc_new w (.cells e.cells 115)
  obtain ⟨k, v, r, g⟩ := e
  obtain ⟨h1, h2, h3, h4, h5⟩ := h
  simp only at h1 h2 h3 h4 hr ⊢
  clear h5
  obtain ⟨m, rfl⟩ := Int.eq_ofNat_of_zero_le (show 0 ≤ r by omega)
  unfold Eff.val Eff.cells at *
  unfold effL
  simp only [Int.toNat_natCast] at *
  have HR := Lib.hid hri
  clear hri
  have HC := Lib.hid hcell
  clear hcell
  cases g
  · go_enter Tryz.func72, Tryz.ntmps72
    go_wp2_with fail
    refine HR.out.mono ?_
    rintro x w1 ⟨rfl, hb1⟩
    have hat1 := at_below HC.out hb1
    obtain ⟨q0, q1, q2, q3⟩ := cells4 hat1
    have hb1' : Below w.heap.size w w1 := chain hb0 hb1
    clear hb1 hb0 HC HR
    go_wp2_with fail
    refine (put_any none 0 0 [] 1 1 w1 RdB.nil (by omega) (by omega) (by omega) (by omega)).mono ?_
    rintro x w2 ⟨A2, c2, rfl, hown2, hb2⟩
    rw [Nat.zero_add, List.nil_append] at hown2
    have hat2 := at_below hat1 hb2
    clear q0 q1 q2 q3
    obtain ⟨q0, q1, q2, q3⟩ := cells4 hat2
    have hb2' := chain hb1' hb2
    clear hb1' hb2 hat1
    have hmm : (m : Int) % 18446744073709551616 = (m : Int) := by omega
    go_wp2_with fail
    refine (put_any A2 1 c2 (putN 1 1) m 8 w2 hown2.rd (by omega) (by omega) (by omega) (by omega)).mono ?_
    rintro x w3 ⟨A3, c3, rfl, hown3, hb3⟩
    have hat3 := at_below hat2 hb3
    clear q0 q1 q2 q3
    obtain ⟨q0, q1, q2, q3⟩ := cells4 hat3
    have hb3' := chain hb2' hb3
    have hwg3 : w.heap.size < w3.heap.size := (Array.getElem?_eq_some_iff.1 hat3).1
    clear hb2' hb3 hat2 q0 q1 q2 q3
    have kc0 : ∀ w', Below w3.heap.size w3 w' → w'.cell? ⟨w.heap.size, 0, none⟩ = some (.string k) := fun w' hb => (cells4 (at_below hat3 hb)).1
    have kc1 : ∀ w', Below w3.heap.size w3 w' → w'.cell? ⟨w.heap.size, 1, none⟩ = some (.string v) := fun w' hb => (cells4 (at_below hat3 hb)).2.1
    go_wp2_with fail
    refine region_begin (fun w' => Below w3.heap.size w3 w') (by kernel_rfl) (Below.drew (Below.refl _ _)) (fun hHeld => ?_)
    refine tag [0,1,2,4,5] ?_
    iterate 5 (
      refine sH (v := ?_) rfl (by kernel_rfl) (fun _ _ _ h => h) (Or.inl ⟨by kernel_rfl, ?_⟩) (by assumption) ?_
      rotate_left
      · (intro wS hwS; (try dsimp only at hwS); go_simp; try (first | (with_reducible rfl) | rw [if_pos (by omega)] | rw [if_neg (by omega)]))
      try simp only [PT])
    refine tagN ?_
    refine region_one 3 (by kernel_rfl) rfl (fun K hK => ?_)
    go_simp
    refine (long_any _ _ _ _ k _ ((hown3.rd.below hHeld).more hHeld.size) (by omega) (by omega)).mono ?_
    rintro x w4 ⟨A4, c4, rfl, hown4, hb4⟩
    have hb34 := chain hHeld hb4
    refine hK.out _ _ (fun w' => Below w4.heap.size w4 w') (Below.refl _ _) (fun w' h => chain hb34 h) (fun hHeld => ?_)
    clear hK K
    try simp only [PT]
    refine region_one 6 (by kernel_rfl) rfl (fun K hK => ?_)
    go_simp
    refine (long_any _ _ _ _ v _ ((hown4.rd.below hHeld).more hHeld.size) (by omega) (by omega)).mono ?_
    rintro x w5 ⟨A5, c5, rfl, hown5, hb5⟩
    have hb35 := chain (chain hb34 hHeld) hb5
    have hown5' := hown5.lower (Nat.le_trans hb3'.size (Nat.le_trans hb34.size hHeld.size))
    refine hK.out _ _ (fun w' => w' = w5) (rfl) (fun w' h => h ▸ chain hHeld hb5) (fun hHeld => ?_)
    clear hK K
    try simp only [PT]
    refine tag [7,8] ?_
    iterate 2 (
      refine sH (v := ?_) rfl (by kernel_rfl) (fun _ _ _ h => h) (Or.inl ⟨by kernel_rfl, ?_⟩) (by assumption) ?_
      rotate_left
      · (intro wS hwS; (try dsimp only at hwS); go_simp; try (first | (with_reducible rfl) | rw [if_pos (by omega)] | rw [if_neg (by omega)]))
      try simp only [PT])
    refine tagN ?_
    refine wpAnyH_done (by kernel_rfl) ?_ _
    go_wp2_with fail
    go_ret2
    have en : 1 + 8 + (4 + k.size) + (4 + v.size) = 17 + k.size + v.size := by omega
    have en2 : 9 + (4 + k.size) + (4 + v.size) = 17 + k.size + v.size := by omega
    rw [en, List.append_assoc, List.append_assoc] at hown5'
    refine ⟨A5, c5, ?_, hown5', chain hb3' hb35⟩
    rw [← en2]
    rfl
  · go_enter Tryz.func72, Tryz.ntmps72
    go_wp2_with fail
    refine HR.out.mono ?_
    rintro x w1 ⟨rfl, hb1⟩
    have hat1 := at_below HC.out hb1
    obtain ⟨q0, q1, q2, q3⟩ := cells4 hat1
    have hb1' : Below w.heap.size w w1 := chain hb0 hb1
    clear hb1 hb0 HC HR
    go_wp2_with fail
    refine (put_any none 0 0 [] 2 1 w1 RdB.nil (by omega) (by omega) (by omega) (by omega)).mono ?_
    rintro x w2 ⟨A2, c2, rfl, hown2, hb2⟩
    rw [Nat.zero_add, List.nil_append] at hown2
    have hat2 := at_below hat1 hb2
    clear q0 q1 q2 q3
    obtain ⟨q0, q1, q2, q3⟩ := cells4 hat2
    have hb2' := chain hb1' hb2
    clear hb1' hb2 hat1
    have hmm : (m : Int) % 18446744073709551616 = (m : Int) := by omega
    go_wp2_with fail
    refine (put_any A2 1 c2 (putN 2 1) m 8 w2 hown2.rd (by omega) (by omega) (by omega) (by omega)).mono ?_
    rintro x w3 ⟨A3, c3, rfl, hown3, hb3⟩
    have hat3 := at_below hat2 hb3
    clear q0 q1 q2 q3
    obtain ⟨q0, q1, q2, q3⟩ := cells4 hat3
    have hb3' := chain hb2' hb3
    have hwg3 : w.heap.size < w3.heap.size := (Array.getElem?_eq_some_iff.1 hat3).1
    clear hb2' hb3 hat2 q0 q1 q2 q3
    have kc0 : ∀ w', Below w3.heap.size w3 w' → w'.cell? ⟨w.heap.size, 0, none⟩ = some (.string k) := fun w' hb => (cells4 (at_below hat3 hb)).1
    have kc1 : ∀ w', Below w3.heap.size w3 w' → w'.cell? ⟨w.heap.size, 1, none⟩ = some (.string v) := fun w' hb => (cells4 (at_below hat3 hb)).2.1
    go_wp2_with fail
    refine region_begin (fun w' => Below w3.heap.size w3 w') (by kernel_rfl) (Below.drew (Below.refl _ _)) (fun hHeld => ?_)
    refine tag [0,1,2,4,5] ?_
    iterate 5 (
      refine sH (v := ?_) rfl (by kernel_rfl) (fun _ _ _ h => h) (Or.inl ⟨by kernel_rfl, ?_⟩) (by assumption) ?_
      rotate_left
      · (intro wS hwS; (try dsimp only at hwS); go_simp; try (first | (with_reducible rfl) | rw [if_pos (by omega)] | rw [if_neg (by omega)]))
      try simp only [PT])
    refine tagN ?_
    refine region_one 3 (by kernel_rfl) rfl (fun K hK => ?_)
    go_simp
    refine (long_any _ _ _ _ k _ ((hown3.rd.below hHeld).more hHeld.size) (by omega) (by omega)).mono ?_
    rintro x w4 ⟨A4, c4, rfl, hown4, hb4⟩
    have hb34 := chain hHeld hb4
    refine hK.out _ _ (fun w' => Below w4.heap.size w4 w') (Below.refl _ _) (fun w' h => chain hb34 h) (fun hHeld => ?_)
    clear hK K
    try simp only [PT]
    refine region_one 6 (by kernel_rfl) rfl (fun K hK => ?_)
    go_simp
    refine (long_any _ _ _ _ v _ ((hown4.rd.below hHeld).more hHeld.size) (by omega) (by omega)).mono ?_
    rintro x w5 ⟨A5, c5, rfl, hown5, hb5⟩
    have hb35 := chain (chain hb34 hHeld) hb5
    have hown5' := hown5.lower (Nat.le_trans hb3'.size (Nat.le_trans hb34.size hHeld.size))
    refine hK.out _ _ (fun w' => w' = w5) (rfl) (fun w' h => h ▸ chain hHeld hb5) (fun hHeld => ?_)
    clear hK K
    try simp only [PT]
    refine tag [7,8] ?_
    iterate 2 (
      refine sH (v := ?_) rfl (by kernel_rfl) (fun _ _ _ h => h) (Or.inl ⟨by kernel_rfl, ?_⟩) (by assumption) ?_
      rotate_left
      · (intro wS hwS; (try dsimp only at hwS); go_simp; try (first | (with_reducible rfl) | rw [if_pos (by omega)] | rw [if_neg (by omega)]))
      try simp only [PT])
    refine tagN ?_
    refine wpAnyH_done (by kernel_rfl) ?_ _
    go_wp2_with fail
    go_ret2
    have en : 1 + 8 + (4 + k.size) + (4 + v.size) = 17 + k.size + v.size := by omega
    have en2 : 9 + (4 + k.size) + (4 + v.size) = 17 + k.size + v.size := by omega
    rw [en, List.append_assoc, List.append_assoc] at hown5'
    refine ⟨A5, c5, ?_, hown5', chain hb3' hb35⟩
    rw [← en2]
    rfl
end Go.Proofs.YtnkjekkdndjfaaaGreat
