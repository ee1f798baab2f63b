
/- Chapter 10: the chapter's helpers; the reference's Put. -/
import Derived.Test.YtnkjekkdndjfaaaGreatRedo
import Derived.Test.YtnkjekkdndjfaaaGreatPkA
namespace Go.Proofs.YtnkjekkdndjfaaaGreat
set_option linter.unusedVariables false
set_option linter.unusedSimpArgs false
open Go.RowKit

/-- cut -/
def cutS (s : ByteArray) (n : Nat) : ByteArray := if n < s.size then s.extract 0 n else s
theorem cutS_size (s : ByteArray) (n : Nat) : (cutS s n).size ≤ n := by
  unfold cutS
  split
  · simp [ByteArray.size_extract]; omega
  · omega
def cutE (e : Eff) : Eff := ⟨cutS e.k 140, cutS e.v 100, e.r, e.g⟩
end Go.Proofs.YtnkjekkdndjfaaaGreat
namespace Go.Proofs.YtnkjekkdndjfaaaGreat
set_option linter.unusedVariables false
set_option linter.unusedSimpArgs false
open Go.RowKit
set_option maxRecDepth 100000 in
set_option maxHeartbeats 2000000 in
theorem rput10_any (e : Eff) (w : World) (h : e.right) (hr : e.r < 9223372036854775808) :
    Calls Tryz.prog 52 #[e.val] w fun x w' => x = .returned (.string ⟨(effL e).toArray⟩) ∧ Below w.heap.size w w' := by
  have hb0 : Below w.heap.size w (w.alloc (.cells e.cells 110)) := (Below.refl _ _).alloc (Nat.le_refl _) _
  have hcell := heap_alloc_new w (.cells e.cells 110)
  obtain ⟨k, v, r, g⟩ := e
  obtain ⟨h1, h2, h3, h4, h5⟩ := h
  simp only at h1 h2 h3 h4 hr ⊢
  clear h5
  obtain ⟨m, rfl⟩ := Int.eq_ofNat_of_zero_le (show 0 ≤ r by omega)
  have hmm : IntKind.u64.wrap (m : Int) = (m : Int) := by show (m : Int) % 18446744073709551616 = (m : Int); omega
  unfold Eff.val Eff.cells at *
  unfold effL
  simp only [Int.toNat_natCast] at *
  have hat : ∀ w', Below (w.alloc (.cells #[.string k, .string v, .int .i64 (m : Int), .bool g] 110)).heap.size (w.alloc (.cells #[.string k, .string v, .int .i64 (m : Int), .bool g] 110)) w' → w'.heap[w.heap.size]? = some (.cells #[.string k, .string v, .int .i64 (m : Int), .bool g] 110) := fun w' hb => at_below hcell hb
  have hc0 : ∀ w', Below (w.alloc (.cells #[.string k, .string v, .int .i64 (m : Int), .bool g] 110)).heap.size (w.alloc (.cells #[.string k, .string v, .int .i64 (m : Int), .bool g] 110)) w' → w'.cell? ⟨w.heap.size, 0, none⟩ = some (.string k) := fun w' hb => (cells4 (hat w' hb)).1
  have hc1 : ∀ w', Below (w.alloc (.cells #[.string k, .string v, .int .i64 (m : Int), .bool g] 110)).heap.size (w.alloc (.cells #[.string k, .string v, .int .i64 (m : Int), .bool g] 110)) w' → w'.cell? ⟨w.heap.size, 1, none⟩ = some (.string v) := fun w' hb => (cells4 (hat w' hb)).2.1
  have hc2 : ∀ w', Below (w.alloc (.cells #[.string k, .string v, .int .i64 (m : Int), .bool g] 110)).heap.size (w.alloc (.cells #[.string k, .string v, .int .i64 (m : Int), .bool g] 110)) w' → w'.cell? ⟨w.heap.size, 2, none⟩ = some (.int .i64 (m : Int)) := fun w' hb => (cells4 (hat w' hb)).2.2.1
  have hc3 : (w.alloc (.cells #[.string k, .string v, .int .i64 (m : Int), .bool g] 110)).cell? ⟨w.heap.size, 3, none⟩ = some (.bool g) := (cells4 hcell).2.2.2
  clear hat hcell
  have hq := putN_length m 8
  have hlk := longL_length k
  have hlv := longL_length v
  have hP : ∀ w, _ := fun w => ref_put m 8 w (by omega) (by omega) (by omega)
  have hLK : ∀ w, _ := fun w => rlong_any k w (by omega)
  have hLV : ∀ w, _ := fun w => rlong_any v w (by omega)
  generalize putN m 8 = q at *
  generalize longL k = lk at *
  generalize longL v = lv at *
  have HP := Lib.hid hP
  have HLK := Lib.hid hLK
  have HLV := Lib.hid hLV
  clear hP hLK hLV
  cases g
  · have e1 : (⟨#[1]⟩ ++ ⟨q.toArray⟩ : ByteArray) = ⟨([1] ++ q).toArray⟩ := cat_str [1] q
    have e2 : (⟨([1] ++ q).toArray⟩ ++ ⟨lk.toArray⟩ : ByteArray) = ⟨([1] ++ q ++ lk).toArray⟩ := cat_str _ _
    have e3 : (⟨([1] ++ q ++ lk).toArray⟩ ++ ⟨lv.toArray⟩ : ByteArray) = ⟨([1] ++ q ++ lk ++ lv).toArray⟩ := cat_str _ _
    have s1 : ¬ 9223372036854775807 < 1 + q.length := by omega
    have s2 : ¬ 9223372036854775807 < ([1] ++ q).length + lk.length := by simp; omega
    have s3 : ¬ 9223372036854775807 < ([1] ++ q ++ lk).length + lv.length := by simp; omega
    have hjA : [1] ++ q ++ lk ++ lv = putN 1 1 ++ (q ++ (lk ++ lv)) := by simp [putN]
    generalize hj3 : [1] ++ q ++ lk ++ lv = j3 at *
    generalize hj2 : [1] ++ q ++ lk = j2 at *
    generalize hj1 : [1] ++ q = j1 at *
    have HJ := Lib.hid hjA
    clear hjA
    clear hj3 hj2 hj1
    go_enter Tryz.func52, Tryz.ntmps52
    go_wp2_with fail
    generalize w.alloc _ = w1 at *
    go_wp2_with fail
    refine region_begin (fun w' => Below w1.heap.size w1 w') (by kernel_rfl) (Below.drew (Below.refl _ _)) (fun hHeld => ?_)
    refine tag [0,1,2,3,7,8,11,12] ?_
    iterate 8 (
      refine sH (v := ?_) rfl (by kernel_rfl) (fun _ _ _ h => h) (Or.inl ⟨by kernel_rfl, ?_⟩) (by assumption) ?_
      rotate_left
      · (intro wS hwS; (try dsimp only at hwS); go_simp; try (first | (with_reducible rfl) | rw [if_pos (by omega)] | rw [if_neg (by omega)]))
      try simp only [PT])
    refine tagN ?_
    refine region_one 4 (by kernel_rfl) rfl (fun K hK => ?_)
    go_simp
    refine (HP.out _).mono ?_
    rintro x w2 ⟨A2, rfl, hown2, hb2⟩
    have hb12 := chain hHeld hb2
    refine hK.out _ _ (fun w' => Below w2.heap.size w2 w') (Below.refl _ _) (fun w' h => chain hb12 h) (fun hHeld => ?_)
    clear hK K
    try simp only [PT]
    have k2 : ∀ w', Below w2.heap.size w2 w' → _ := fun w' h => conv_str (hown2.rd.below h)
    refine tag [5,6] ?_
    iterate 2 (
      refine sH (v := ?_) rfl (by kernel_rfl) (fun _ _ _ h => h) (Or.inl ⟨by kernel_rfl, ?_⟩) (by assumption) ?_
      rotate_left
      · (intro wS hwS; (try dsimp only at hwS); go_simp; try (first | (with_reducible rfl) | rw [if_pos (by omega)] | rw [if_neg (by omega)]))
      try simp only [PT])
    refine tagN ?_
    clear k2
    refine region_one 9 (by kernel_rfl) rfl (fun K hK => ?_)
    go_simp
    refine (HLK.out _).mono ?_
    rintro x w3 ⟨rfl, hb3⟩
    have hc3 := chain hHeld hb3
    refine hK.out _ _ (fun w' => Below w2.heap.size w2 w') (hc3) (fun _ h => h) (fun hHeld => ?_)
    clear hK K
    try simp only [PT]
    refine tag [10] ?_
    refine sH (v := ?_) rfl (by kernel_rfl) (fun _ _ _ h => h) (Or.inl ⟨by kernel_rfl, ?_⟩) (by assumption) ?_
    rotate_left
    · (intro wS hwS; (try dsimp only at hwS); go_simp; try (first | (with_reducible rfl) | rw [if_pos (by omega)] | rw [if_neg (by omega)]))
    try simp only [PT]
    refine tagN ?_
    refine region_one 13 (by kernel_rfl) rfl (fun K hK => ?_)
    go_simp
    refine (HLV.out _).mono ?_
    rintro x w4 ⟨rfl, hb4⟩
    have hc4 := chain hHeld hb4
    refine hK.out _ _ (fun w' => Below w2.heap.size w2 w') (hc4) (fun _ h => h) (fun hHeld => ?_)
    clear hK K
    try simp only [PT]
    refine tag [14,15] ?_
    iterate 2 (
      refine sH (v := ?_) rfl (by kernel_rfl) (fun _ _ _ h => h) (Or.inl ⟨by kernel_rfl, ?_⟩) (by assumption) ?_
      rotate_left
      · (intro wS hwS; (try dsimp only at hwS); go_simp; try (first | (with_reducible rfl) | rw [if_pos (by omega)] | rw [if_neg (by omega)]))
      try simp only [PT])
    refine tagN ?_
    refine wpAnyH_done (by kernel_rfl) ?_ _
    clear hc0 hc1 hc2 hc3 e1 e2 e3 s1 s2 s3 HP HLK HLV hown2
    have hbz := chain (chain hb0 hb12) hHeld
    clear hHeld hc3 hc4 hb3 hb4 hb12 hb2 hb0
    clear hmm hq hlk hlv h1 h2 h3 hr h4
    have HB := Lib.hid hbz
    clear hbz
    go_wp2_with fail
    go_ret
    refine ⟨?_, HB.out⟩
    show Ending.returned (.string ⟨j3.toArray⟩) = _
    rw [HJ.out]
  · have e1 : (⟨#[2]⟩ ++ ⟨q.toArray⟩ : ByteArray) = ⟨([2] ++ q).toArray⟩ := cat_str [2] q
    have e2 : (⟨([2] ++ q).toArray⟩ ++ ⟨lk.toArray⟩ : ByteArray) = ⟨([2] ++ q ++ lk).toArray⟩ := cat_str _ _
    have e3 : (⟨([2] ++ q ++ lk).toArray⟩ ++ ⟨lv.toArray⟩ : ByteArray) = ⟨([2] ++ q ++ lk ++ lv).toArray⟩ := cat_str _ _
    have s1 : ¬ 9223372036854775807 < 1 + q.length := by omega
    have s2 : ¬ 9223372036854775807 < ([2] ++ q).length + lk.length := by simp; omega
    have s3 : ¬ 9223372036854775807 < ([2] ++ q ++ lk).length + lv.length := by simp; omega
    have hjA : [2] ++ q ++ lk ++ lv = putN 2 1 ++ (q ++ (lk ++ lv)) := by simp [putN]
    generalize hj3 : [2] ++ q ++ lk ++ lv = j3 at *
    generalize hj2 : [2] ++ q ++ lk = j2 at *
    generalize hj1 : [2] ++ q = j1 at *
    have HJ := Lib.hid hjA
    clear hjA
    clear hj3 hj2 hj1
    go_enter Tryz.func52, Tryz.ntmps52
    go_wp2_with fail
    generalize w.alloc _ = w1 at *
    go_wp2_with fail
    refine region_begin (fun w' => Below w1.heap.size w1 w') (by kernel_rfl) (Below.drew (Below.refl _ _)) (fun hHeld => ?_)
    refine tag [0,1,2,3,7,8,11,12] ?_
    iterate 8 (
      refine sH (v := ?_) rfl (by kernel_rfl) (fun _ _ _ h => h) (Or.inl ⟨by kernel_rfl, ?_⟩) (by assumption) ?_
      rotate_left
      · (intro wS hwS; (try dsimp only at hwS); go_simp; try (first | (with_reducible rfl) | rw [if_pos (by omega)] | rw [if_neg (by omega)]))
      try simp only [PT])
    refine tagN ?_
    refine region_one 4 (by kernel_rfl) rfl (fun K hK => ?_)
    go_simp
    refine (HP.out _).mono ?_
    rintro x w2 ⟨A2, rfl, hown2, hb2⟩
    have hb12 := chain hHeld hb2
    refine hK.out _ _ (fun w' => Below w2.heap.size w2 w') (Below.refl _ _) (fun w' h => chain hb12 h) (fun hHeld => ?_)
    clear hK K
    try simp only [PT]
    have k2 : ∀ w', Below w2.heap.size w2 w' → _ := fun w' h => conv_str (hown2.rd.below h)
    refine tag [5,6] ?_
    iterate 2 (
      refine sH (v := ?_) rfl (by kernel_rfl) (fun _ _ _ h => h) (Or.inl ⟨by kernel_rfl, ?_⟩) (by assumption) ?_
      rotate_left
      · (intro wS hwS; (try dsimp only at hwS); go_simp; try (first | (with_reducible rfl) | rw [if_pos (by omega)] | rw [if_neg (by omega)]))
      try simp only [PT])
    refine tagN ?_
    clear k2
    refine region_one 9 (by kernel_rfl) rfl (fun K hK => ?_)
    go_simp
    refine (HLK.out _).mono ?_
    rintro x w3 ⟨rfl, hb3⟩
    have hc3 := chain hHeld hb3
    refine hK.out _ _ (fun w' => Below w2.heap.size w2 w') (hc3) (fun _ h => h) (fun hHeld => ?_)
    clear hK K
    try simp only [PT]
    refine tag [10] ?_
    refine sH (v := ?_) rfl (by kernel_rfl) (fun _ _ _ h => h) (Or.inl ⟨by kernel_rfl, ?_⟩) (by assumption) ?_
    rotate_left
    · (intro wS hwS; (try dsimp only at hwS); go_simp; try (first | (with_reducible rfl) | rw [if_pos (by omega)] | rw [if_neg (by omega)]))
    try simp only [PT]
    refine tagN ?_
    refine region_one 13 (by kernel_rfl) rfl (fun K hK => ?_)
    go_simp
    refine (HLV.out _).mono ?_
    rintro x w4 ⟨rfl, hb4⟩
    have hc4 := chain hHeld hb4
    refine hK.out _ _ (fun w' => Below w2.heap.size w2 w') (hc4) (fun _ h => h) (fun hHeld => ?_)
    clear hK K
    try simp only [PT]
    refine tag [14,15] ?_
    iterate 2 (
      refine sH (v := ?_) rfl (by kernel_rfl) (fun _ _ _ h => h) (Or.inl ⟨by kernel_rfl, ?_⟩) (by assumption) ?_
      rotate_left
      · (intro wS hwS; (try dsimp only at hwS); go_simp; try (first | (with_reducible rfl) | rw [if_pos (by omega)] | rw [if_neg (by omega)]))
      try simp only [PT])
    refine tagN ?_
    refine wpAnyH_done (by kernel_rfl) ?_ _
    clear hc0 hc1 hc2 hc3 e1 e2 e3 s1 s2 s3 HP HLK HLV hown2
    have hbz := chain (chain hb0 hb12) hHeld
    clear hHeld hc3 hc4 hb3 hb4 hb12 hb2 hb0
    clear hmm hq hlk hlv h1 h2 h3 hr h4
    have HB := Lib.hid hbz
    clear hbz
    go_wp2_with fail
    go_ret
    refine ⟨?_, HB.out⟩
    show Ending.returned (.string ⟨j3.toArray⟩) = _
    rw [HJ.out]
end Go.Proofs.YtnkjekkdndjfaaaGreat
namespace Go.Proofs.YtnkjekkdndjfaaaGreat
set_option linter.unusedVariables false
set_option linter.unusedSimpArgs false
open Go.RowKit

theorem St.u_four_lt (s : St) : (s.u 4).1 < 4294967296 := by
  unfold St.u
  rw [if_neg (by omega)]
  simp only
  rcases St.bytes_length s 4 with h | h
  · have h1 := num_lt_pw (s.bytes 4).1 (by omega)
    have : 256 ^ (s.bytes 4).1.length ≤ 256 ^ 4 := Nat.pow_le_pow_right (by omega) (by omega)
    omega
  · rw [h]; decide

/-- redo.text -/
theorem rtext10 (g : Nat) (s : St) (w : World) (h : IsRdr w g s) :
    Calls Tryz.prog 113 #[.pointer (some ⟨g, 0, none⟩)] w fun e w' => e = .returned (.string ⟨s.long.1.toArray⟩) ∧ IsRdr w' g s.long.2 ∧ w.grownBy w' (some g) := by
  have hlt := s.u_four_lt
  have hu := u_any g s 4 w h
  unfold St.long
  generalize (s.u 4).1 = n at *
  generalize (s.u 4).2 = s1 at *
  have HU := Lib.hid hu
  clear hu
  go_enter Tryz.func113, Tryz.ntmps113
  go_wp2_with (first | (go_at_call 106; refine HU.out.mono ?_; rintro e w1 ⟨rfl, hI1, hG1⟩) | (go_at_call 145; refine (bytes_any g _ _ _ hI1).mono ?_; rintro e w3 ⟨A, rfl, hr3, hI3, hG3⟩; have hcv := conv_str hr3))
  go_ret
  exact ⟨rfl, hI3, only_trans hG1 hG3⟩

def Eff.zero : Eff := ⟨⟨#[]⟩, ⟨#[]⟩, 0, false⟩
theorem cell_only {w w' : World} {g b i : Nat} {v : Value} (hG : w.grownBy w' (some g)) (h : w.cell? ⟨b, i, none⟩ = some v) (hne : b ≠ g) : w'.cell? ⟨b, i, none⟩ = some v := by
  have hlt := World.block_lt_of_cell? w _ h
  have hb := hG.block b hlt (by intro e; injection e with e; exact hne e)
  unfold World.cell? at h ⊢
  rw [hb]
  exact h

theorem only_at {w w' : World} {g b : Nat} {o : Obj} (hG : w.grownBy w' (some g)) (h : w.heap[b]? = some o) (hne : b ≠ g) : w'.heap[b]? = some o :=
  (hG.block b (Array.getElem?_eq_some_iff.1 h).1 (by intro e; injection e with e; exact hne e)).trans h
theorem frozen4 {w : World} {g : Nat} {a b c d : Value} {t : TypeId} (h : w.heap[g]? = some (.cells #[a, b, c, d] t)) :
    w.frozen? ⟨g, 0, none⟩ = false ∧ w.frozen? ⟨g, 1, none⟩ = false ∧ w.frozen? ⟨g, 2, none⟩ = false ∧ w.frozen? ⟨g, 3, none⟩ = false := by
  refine ⟨by simp [World.frozen?, h], by simp [World.frozen?, h], by simp [World.frozen?, h], by simp [World.frozen?, h]⟩
theorem sgn_wrap (n : Nat) (h : n < 18446744073709551616) : IntKind.i64.wrap (n : Int) = sgn n := by
  unfold sgn
  by_cases hn : n < 9223372036854775808
  · rw [if_pos hn]
    simp [IntKind.wrap, IntKind.bits, IntKind.signed]
    omega
  · rw [if_neg hn]
    simp [IntKind.wrap, IntKind.bits, IntKind.signed]
    omega
set_option maxRecDepth 100000 in
set_option maxHeartbeats 2000000 in
theorem eread_ok (A : Option Addr) (n c : Nat) (b : List UInt8) (w : World) (hr : RdB w w.heap.size A n c b) (hn : n ≤ 1099511627776) (h : okE b) :
    Calls Tryz.prog 63 #[.slice A n c] w fun x w' => x = .returned (.tuple #[(rdE b).e.val, .int .i64 0]) ∧ Below w.heap.size w w' := by
  have hb0 : Below w.heap.size w (w.alloc (.cells Eff.zero.cells 115)) := (Below.refl _ _).alloc (Nat.le_refl _) _
  have hc0 := heap_alloc_new w (.cells Eff.zero.cells 115)
  have hnew := new_any A n c b (w.alloc (.cells Eff.zero.cells 115)) ((hr.alloc (Nat.le_refl _) _).more (by simp)) hn
  unfold okE rdE at *
  simp only at h ⊢
  generalize (⟨b, false⟩ : St) = s0 at *
  have hu1 := fun g w h => u_any g s0 1 w h
  generalize hs1 : s0.u 1 = s1 at *
  obtain ⟨n1, s1⟩ := s1
  have hu2 := fun g w h => u_any g s1 8 w h
  have hlt2 := St.u_lt s1 8
  simp only at h hu1 hu2 hlt2 ⊢
  generalize hs2 : s1.u 8 = s2 at *
  obtain ⟨n2, s2⟩ := s2
  have ht3 := fun g w h => rtext10 g s2 w h
  simp only at h hu2 ht3 hlt2 ⊢
  generalize hs3 : s2.long = s3 at *
  obtain ⟨t3, s3⟩ := s3
  have ht4 := fun g w h => rtext10 g s3 w h
  simp only at h ht3 ht4 ⊢
  generalize hs4 : s3.long = s4 at *
  obtain ⟨t4, s4⟩ := s4
  have hri := fun w => right_any ⟨⟨t3.toArray⟩, ⟨t4.toArray⟩, sgn n2, decide (n1 = 2)⟩ w
  unfold Eff.val Eff.cells at hri
  simp only at h ht4 hri ⊢
  have hsg := sgn_wrap n2 hlt2
  obtain ⟨d, hd⟩ : ∃ d, decide (n1 = 2) = d := ⟨_, rfl⟩
  have hk2 : ((n1 : Int) == 2) = d := by rw [← hd, Bool.eq_iff_iff]; simp; omega
  rw [hd] at h hri ⊢
  have HK := Lib.hid hk2
  clear hk2
  clear hs1 hs2 hs3 hs4 hlt2
  have H1 := Lib.hid hu1
  have H2 := Lib.hid hu2
  have H3 := Lib.hid ht3
  have H4 := Lib.hid ht4
  have HN := Lib.hid hnew
  have HC := Lib.hid hc0
  have HB0 := Lib.hid hb0
  have HH := Lib.hid h
  have HRI := Lib.hid hri
  clear hu1 hu2 ht3 ht4 hnew hc0 hb0 h hri
  go_enter Tryz.func63, Tryz.ntmps63
  go_wp2_with fail
  refine HN.out.mono ?_
  rintro x w1 ⟨g, rfl, hg, hI1, hb1⟩
  have hat1 := at_below HC.out hb1
  have hbw1 := chain HB0.out hb1
  clear HC HB0 hb1 HN
  have hg2 : w.heap.size + 1 ≤ g := by simpa using hg
  clear hg
  have hgne : w.heap.size ≠ g := by omega
  go_wp2_with fail
  refine (H1.out _ _ hI1).mono ?_
  rintro x w2 ⟨rfl, hI2, hG2⟩
  have hat2 := only_at hG2 hat1 hgne
  have hbw2 := chainG hbw1 hG2 (by omega)
  clear hI1 hat1 hbw1 hG2 H1
  go_wp2_with fail
  refine (H2.out _ _ hI2).mono ?_
  rintro x w3 ⟨rfl, hI3, hG3⟩
  have hat3 := only_at hG3 hat2 hgne
  have hbw3 := chainG hbw2 hG3 (by omega)
  clear hI2 hat2 hbw2 hG3 H2
  go_wp2_with fail
  rw [HK.out]
  have hE3 := heap_alloc_new w3 (.cells #[.string ⟨#[]⟩, .string ⟨#[]⟩, .int .i64 (sgn n2), .bool d] 115)
  have hal : Below w3.heap.size w3 (w3.alloc (.cells #[.string ⟨#[]⟩, .string ⟨#[]⟩, .int .i64 (sgn n2), .bool d] 115)) := (Below.refl _ _).alloc (Nat.le_refl _) _
  have hat3' := at_below hat3 hal
  have hI3' := hI3.alloc (.cells #[.string ⟨#[]⟩, .string ⟨#[]⟩, .int .i64 (sgn n2), .bool d] 115)
  have hbw3' := chain hbw3 hal
  have hgl := hI3.lt
  have hws := hbw3.size
  refine (H3.out _ _ hI3').mono ?_
  generalize hge : w3.heap.size = ge at *
  have hne : ge ≠ g := by omega
  have hne2 : w.heap.size ≠ ge := by omega
  rintro x w4 ⟨rfl, hI4, hG4⟩
  have hE4 := only_at hG4 hE3 hne
  have hat4 := only_at hG4 hat3' hgne
  have hbw4 := chainG hbw3' hG4 (by omega)
  obtain ⟨q0, q1, q2, q3⟩ := cells4 hE4
  obtain ⟨f0, f1, f2, f3⟩ := frozen4 hE4
  clear hal hat3 hat3' hI3 hI3' hbw3 hbw3' hG4 H3 hE3 hsg HK hge
  go_wp2_with fail
  have hE4' := heap_setCell_at hE4 0 (.string ⟨t3.toArray⟩)
  have hS4 := only_setCell w4 ge 0 (.string ⟨t3.toArray⟩)
  have hI4' := hI4.other hS4 hgl
  have hat4' := only_at hS4 hat4 hne2
  have hbw4' := chainG hbw4 hS4 hws
  generalize w4.setCell ⟨ge, 0, none⟩ (.string ⟨t3.toArray⟩) = w5 at *
  replace hE4' : w5.heap[ge]? = some (.cells #[.string ⟨t3.toArray⟩, .string ⟨#[]⟩, .int .i64 (sgn n2), .bool d] 115) := hE4'
  clear hS4 hbw4 hat4 hI4 hE4 q0 q1 q2 q3 f0 f1 f2 f3
  refine (H4.out _ _ hI4').mono ?_
  rintro x w6 ⟨rfl, hI6, hG6⟩
  have hE6 := only_at hG6 hE4' hne
  have hat6 := only_at hG6 hat4' hgne
  have hbw6 := chainG hbw4' hG6 (by omega)
  obtain ⟨q0, q1, q2, q3⟩ := cells4 hE6
  obtain ⟨f0, f1, f2, f3⟩ := frozen4 hE6
  clear hE4' hI4' hat4' hbw4' hG6 H4
  go_wp2_with fail
  have hE6' := heap_setCell_at hE6 1 (.string ⟨t4.toArray⟩)
  have hS6 := only_setCell w6 ge 1 (.string ⟨t4.toArray⟩)
  have hI6' := hI6.other hS6 hgl
  have hat6' := only_at hS6 hat6 hne2
  have hbw6' := chainG hbw6 hS6 hws
  generalize w6.setCell ⟨ge, 1, none⟩ (.string ⟨t4.toArray⟩) = w7 at *
  replace hE6' : w7.heap[ge]? = some (.cells #[.string ⟨t3.toArray⟩, .string ⟨t4.toArray⟩, .int .i64 (sgn n2), .bool d] 115) := hE6'
  clear hS6 hbw6 hat6 hI6 hE6 q0 q1 q2 q3 f0 f1 f2 f3
  have hdn := done_any g s4 w7 hI6'
  obtain ⟨h1, h2, h3⟩ := HH.out
  unfold St.done at h1
  rw [h1] at hdn
  have HD := Lib.hid hdn
  have hri := HRI.out
  rw [decide_eq_true h3] at hri
  have HR := Lib.hid hri
  clear hdn hri HRI h1 h3 HH
  obtain ⟨q0, q1, q2, q3⟩ := cells4 hE6'
  obtain ⟨c0, c1, c2, c3⟩ := cells4 hat6'
  obtain ⟨f0, f1, f2, f3⟩ := frozen4 hat6'
  refine HD.out.mono ?_
  rintro x w8 ⟨rfl, rfl⟩
  rcases h2 with rfl | rfl
  · clear c0 c1 c2 c3 f0 f1 f2 f3
    go_wp2_with fail
    refine (HR.out _).mono ?_
    rintro x w8 ⟨rfl, hb8⟩
    have hat8 := at_below hat6' hb8
    obtain ⟨p0, p1, p2, p3⟩ := cells4 (at_below hE6' hb8)
    obtain ⟨c0, c1, c2, c3⟩ := cells4 hat8
    obtain ⟨f0, f1, f2, f3⟩ := frozen4 hat8
    have hbw8 := chain hbw6' hb8
    clear q0 q1 q2 q3 hat6' hE6' hI6' hbw6' hb8 HR HD
    go_wp2_with fail
    have hF := heap_setCell_at (heap_setCell_at (heap_setCell_at (heap_setCell_at hat8 0 (.string ⟨t3.toArray⟩)) 1 (.string ⟨t4.toArray⟩)) 2 (.int .i64 (sgn n2))) 3 (.bool d)
    have hG := only_trans (only_trans (only_trans (only_setCell w8 w.heap.size 0 (.string ⟨t3.toArray⟩)) (only_setCell _ w.heap.size 1 (.string ⟨t4.toArray⟩))) (only_setCell _ w.heap.size 2 (.int .i64 (sgn n2)))) (only_setCell _ w.heap.size 3 (.bool d))
    have hbF := chainG hbw8 hG (Nat.le_refl _)
    generalize (World.setCell _ ⟨w.heap.size, 3, none⟩ (Value.bool d)) = wF at *
    replace hF : wF.heap[w.heap.size]? = some (.cells #[.string ⟨t3.toArray⟩, .string ⟨t4.toArray⟩, .int .i64 (sgn n2), .bool d] 115) := hF
    obtain ⟨z0, z1, z2, z3⟩ := cells4 hF
    exact bodyPost_ret (v := .tuple #[.agg #[.string ⟨t3.toArray⟩, .string ⟨t4.toArray⟩, .int .i64 (sgn n2), .bool d], .int .i64 0]) (by simp [results, Tryz.results63, go_sem, z0, z1, z2, z3]) rfl ⟨rfl, hbF⟩
  · clear c0 c1 c2 c3 f0 f1 f2 f3
    go_wp2_with fail
    refine (HR.out _).mono ?_
    rintro x w8 ⟨rfl, hb8⟩
    have hat8 := at_below hat6' hb8
    obtain ⟨p0, p1, p2, p3⟩ := cells4 (at_below hE6' hb8)
    obtain ⟨c0, c1, c2, c3⟩ := cells4 hat8
    obtain ⟨f0, f1, f2, f3⟩ := frozen4 hat8
    have hbw8 := chain hbw6' hb8
    clear q0 q1 q2 q3 hat6' hE6' hI6' hbw6' hb8 HR HD
    go_wp2_with fail
    have hF := heap_setCell_at (heap_setCell_at (heap_setCell_at (heap_setCell_at hat8 0 (.string ⟨t3.toArray⟩)) 1 (.string ⟨t4.toArray⟩)) 2 (.int .i64 (sgn n2))) 3 (.bool d)
    have hG := only_trans (only_trans (only_trans (only_setCell w8 w.heap.size 0 (.string ⟨t3.toArray⟩)) (only_setCell _ w.heap.size 1 (.string ⟨t4.toArray⟩))) (only_setCell _ w.heap.size 2 (.int .i64 (sgn n2)))) (only_setCell _ w.heap.size 3 (.bool d))
    have hbF := chainG hbw8 hG (Nat.le_refl _)
    generalize (World.setCell _ ⟨w.heap.size, 3, none⟩ (Value.bool d)) = wF at *
    replace hF : wF.heap[w.heap.size]? = some (.cells #[.string ⟨t3.toArray⟩, .string ⟨t4.toArray⟩, .int .i64 (sgn n2), .bool d] 115) := hF
    obtain ⟨z0, z1, z2, z3⟩ := cells4 hF
    exact bodyPost_ret (v := .tuple #[.agg #[.string ⟨t3.toArray⟩, .string ⟨t4.toArray⟩, .int .i64 (sgn n2), .bool d], .int .i64 0]) (by simp [results, Tryz.results63, go_sem, z0, z1, z2, z3]) rfl ⟨rfl, hbF⟩
set_option maxRecDepth 100000 in
set_option maxHeartbeats 2000000 in
theorem eread_bad (A : Option Addr) (n c : Nat) (b : List UInt8) (w : World) (hr : RdB w w.heap.size A n c b) (hn : n ≤ 1099511627776) (h : ¬ okE b) :
    Calls Tryz.prog 63 #[.slice A n c] w fun x w' => x = .returned (.tuple #[Eff.zero.val, .int .i64 3]) ∧ Below w.heap.size w w' := by
  have hb0 : Below w.heap.size w (w.alloc (.cells Eff.zero.cells 115)) := (Below.refl _ _).alloc (Nat.le_refl _) _
  have hc0 := heap_alloc_new w (.cells Eff.zero.cells 115)
  have hnew := new_any A n c b (w.alloc (.cells Eff.zero.cells 115)) ((hr.alloc (Nat.le_refl _) _).more (by simp)) hn
  unfold okE rdE at *
  simp only at h
  generalize (⟨b, false⟩ : St) = s0 at *
  have hu1 := fun g w h => u_any g s0 1 w h
  generalize hs1 : s0.u 1 = s1 at *
  obtain ⟨n1, s1⟩ := s1
  have hu2 := fun g w h => u_any g s1 8 w h
  have hlt2 := St.u_lt s1 8
  simp only at h hu1 hu2 hlt2
  generalize hs2 : s1.u 8 = s2 at *
  obtain ⟨n2, s2⟩ := s2
  have ht3 := fun g w h => rtext10 g s2 w h
  simp only at h hu2 ht3 hlt2
  generalize hs3 : s2.long = s3 at *
  obtain ⟨t3, s3⟩ := s3
  have ht4 := fun g w h => rtext10 g s3 w h
  simp only at h ht3 ht4
  generalize hs4 : s3.long = s4 at *
  obtain ⟨t4, s4⟩ := s4
  have hri := fun w => right_any ⟨⟨t3.toArray⟩, ⟨t4.toArray⟩, sgn n2, decide (n1 = 2)⟩ w
  unfold Eff.val Eff.cells at hri
  simp only at h ht4 hri
  have hsg := sgn_wrap n2 hlt2
  obtain ⟨d, hd⟩ : ∃ d, decide (n1 = 2) = d := ⟨_, rfl⟩
  have hk2 : ((n1 : Int) == 2) = d := by rw [← hd, Bool.eq_iff_iff]; simp; omega
  rw [hd] at h hri
  have HK := Lib.hid hk2
  clear hk2
  clear hs1 hs2 hs3 hs4 hlt2
  have H1 := Lib.hid hu1
  have H2 := Lib.hid hu2
  have H3 := Lib.hid ht3
  have H4 := Lib.hid ht4
  have HN := Lib.hid hnew
  have HC := Lib.hid hc0
  have HB0 := Lib.hid hb0
  have HH := Lib.hid h
  have HRI := Lib.hid hri
  clear hu1 hu2 ht3 ht4 hnew hc0 hb0 h hri
  go_enter Tryz.func63, Tryz.ntmps63
  go_wp2_with fail
  refine HN.out.mono ?_
  rintro x w1 ⟨g, rfl, hg, hI1, hb1⟩
  have hat1 := at_below HC.out hb1
  have hbw1 := chain HB0.out hb1
  clear HC HB0 hb1 HN
  have hg2 : w.heap.size + 1 ≤ g := by simpa using hg
  clear hg
  have hgne : w.heap.size ≠ g := by omega
  go_wp2_with fail
  refine (H1.out _ _ hI1).mono ?_
  rintro x w2 ⟨rfl, hI2, hG2⟩
  have hat2 := only_at hG2 hat1 hgne
  have hbw2 := chainG hbw1 hG2 (by omega)
  clear hI1 hat1 hbw1 hG2 H1
  go_wp2_with fail
  refine (H2.out _ _ hI2).mono ?_
  rintro x w3 ⟨rfl, hI3, hG3⟩
  have hat3 := only_at hG3 hat2 hgne
  have hbw3 := chainG hbw2 hG3 (by omega)
  clear hI2 hat2 hbw2 hG3 H2
  go_wp2_with fail
  rw [HK.out]
  have hE3 := heap_alloc_new w3 (.cells #[.string ⟨#[]⟩, .string ⟨#[]⟩, .int .i64 (sgn n2), .bool d] 115)
  have hal : Below w3.heap.size w3 (w3.alloc (.cells #[.string ⟨#[]⟩, .string ⟨#[]⟩, .int .i64 (sgn n2), .bool d] 115)) := (Below.refl _ _).alloc (Nat.le_refl _) _
  have hat3' := at_below hat3 hal
  have hI3' := hI3.alloc (.cells #[.string ⟨#[]⟩, .string ⟨#[]⟩, .int .i64 (sgn n2), .bool d] 115)
  have hbw3' := chain hbw3 hal
  have hgl := hI3.lt
  have hws := hbw3.size
  refine (H3.out _ _ hI3').mono ?_
  generalize hge : w3.heap.size = ge at *
  have hne : ge ≠ g := by omega
  have hne2 : w.heap.size ≠ ge := by omega
  rintro x w4 ⟨rfl, hI4, hG4⟩
  have hE4 := only_at hG4 hE3 hne
  have hat4 := only_at hG4 hat3' hgne
  have hbw4 := chainG hbw3' hG4 (by omega)
  obtain ⟨q0, q1, q2, q3⟩ := cells4 hE4
  obtain ⟨f0, f1, f2, f3⟩ := frozen4 hE4
  clear hal hat3 hat3' hI3 hI3' hbw3 hbw3' hG4 H3 hE3 hsg HK hge
  go_wp2_with fail
  have hE4' := heap_setCell_at hE4 0 (.string ⟨t3.toArray⟩)
  have hS4 := only_setCell w4 ge 0 (.string ⟨t3.toArray⟩)
  have hI4' := hI4.other hS4 hgl
  have hat4' := only_at hS4 hat4 hne2
  have hbw4' := chainG hbw4 hS4 hws
  generalize w4.setCell ⟨ge, 0, none⟩ (.string ⟨t3.toArray⟩) = w5 at *
  replace hE4' : w5.heap[ge]? = some (.cells #[.string ⟨t3.toArray⟩, .string ⟨#[]⟩, .int .i64 (sgn n2), .bool d] 115) := hE4'
  clear hS4 hbw4 hat4 hI4 hE4 q0 q1 q2 q3 f0 f1 f2 f3
  refine (H4.out _ _ hI4').mono ?_
  rintro x w6 ⟨rfl, hI6, hG6⟩
  have hE6 := only_at hG6 hE4' hne
  have hat6 := only_at hG6 hat4' hgne
  have hbw6 := chainG hbw4' hG6 (by omega)
  obtain ⟨q0, q1, q2, q3⟩ := cells4 hE6
  obtain ⟨f0, f1, f2, f3⟩ := frozen4 hE6
  clear hE4' hI4' hat4' hbw4' hG6 H4
  go_wp2_with fail
  have hE6' := heap_setCell_at hE6 1 (.string ⟨t4.toArray⟩)
  have hS6 := only_setCell w6 ge 1 (.string ⟨t4.toArray⟩)
  have hI6' := hI6.other hS6 hgl
  have hat6' := only_at hS6 hat6 hne2
  have hbw6' := chainG hbw6 hS6 hws
  generalize w6.setCell ⟨ge, 1, none⟩ (.string ⟨t4.toArray⟩) = w7 at *
  replace hE6' : w7.heap[ge]? = some (.cells #[.string ⟨t3.toArray⟩, .string ⟨t4.toArray⟩, .int .i64 (sgn n2), .bool d] 115) := hE6'
  clear hS6 hbw6 hat6 hI6 hE6 q0 q1 q2 q3 f0 f1 f2 f3
  have hdn := done_any g s4 w7 hI6'
  obtain ⟨q0, q1, q2, q3⟩ := cells4 hE6'
  by_cases h1 : s4.done = true
  · unfold St.done at h1
    rw [h1] at hdn
    have HD := Lib.hid hdn
    clear hdn
    by_cases h2 : n1 = 1 ∨ n1 = 2
    · have h3 : ¬ Eff.right ⟨⟨t3.toArray⟩, ⟨t4.toArray⟩, sgn n2, d⟩ := fun h3 => HH.out ⟨h1, h2, h3⟩
      have hri := HRI.out
      rw [decide_eq_false h3] at hri
      have HR := Lib.hid hri
      clear hri HRI h1 h3 HH
      refine HD.out.mono ?_
      rintro x w8 ⟨rfl, rfl⟩
      rcases h2 with rfl | rfl
      · go_wp2_with fail
        refine (HR.out _).mono ?_
        rintro x w8 ⟨rfl, hb8⟩
        have hat8 := at_below hat6' hb8
        obtain ⟨c0, c1, c2, c3⟩ := cells4 hat8
        obtain ⟨f0, f1, f2, f3⟩ := frozen4 hat8
        have hbw8 := chain hbw6' hb8
        clear q0 q1 q2 q3 hat6' hE6' hI6' hbw6' hb8 HD HR
        go_wp2_with fail
        have hF := heap_setCell_at (heap_setCell_at (heap_setCell_at (heap_setCell_at hat8 0 (.string ⟨#[]⟩)) 1 (.string ⟨#[]⟩)) 2 (.int .i64 0)) 3 (.bool false)
        have hG := only_trans (only_trans (only_trans (only_setCell w8 w.heap.size 0 (.string ⟨#[]⟩)) (only_setCell _ w.heap.size 1 (.string ⟨#[]⟩))) (only_setCell _ w.heap.size 2 (.int .i64 0))) (only_setCell _ w.heap.size 3 (.bool false))
        have hbF := chainG hbw8 hG (Nat.le_refl _)
        generalize (World.setCell _ ⟨w.heap.size, 3, none⟩ (Value.bool false)) = wF at *
        replace hF : wF.heap[w.heap.size]? = some (.cells #[.string ⟨#[]⟩, .string ⟨#[]⟩, .int .i64 0, .bool false] 115) := hF
        obtain ⟨z0, z1, z2, z3⟩ := cells4 hF
        exact bodyPost_ret (v := .tuple #[.agg #[.string ⟨#[]⟩, .string ⟨#[]⟩, .int .i64 0, .bool false], .int .i64 3]) (by simp [results, Tryz.results63, go_sem, z0, z1, z2, z3]) rfl ⟨rfl, hbF⟩
      · go_wp2_with fail
        refine (HR.out _).mono ?_
        rintro x w8 ⟨rfl, hb8⟩
        have hat8 := at_below hat6' hb8
        obtain ⟨c0, c1, c2, c3⟩ := cells4 hat8
        obtain ⟨f0, f1, f2, f3⟩ := frozen4 hat8
        have hbw8 := chain hbw6' hb8
        clear q0 q1 q2 q3 hat6' hE6' hI6' hbw6' hb8 HD HR
        go_wp2_with fail
        have hF := heap_setCell_at (heap_setCell_at (heap_setCell_at (heap_setCell_at hat8 0 (.string ⟨#[]⟩)) 1 (.string ⟨#[]⟩)) 2 (.int .i64 0)) 3 (.bool false)
        have hG := only_trans (only_trans (only_trans (only_setCell w8 w.heap.size 0 (.string ⟨#[]⟩)) (only_setCell _ w.heap.size 1 (.string ⟨#[]⟩))) (only_setCell _ w.heap.size 2 (.int .i64 0))) (only_setCell _ w.heap.size 3 (.bool false))
        have hbF := chainG hbw8 hG (Nat.le_refl _)
        generalize (World.setCell _ ⟨w.heap.size, 3, none⟩ (Value.bool false)) = wF at *
        replace hF : wF.heap[w.heap.size]? = some (.cells #[.string ⟨#[]⟩, .string ⟨#[]⟩, .int .i64 0, .bool false] 115) := hF
        obtain ⟨z0, z1, z2, z3⟩ := cells4 hF
        exact bodyPost_ret (v := .tuple #[.agg #[.string ⟨#[]⟩, .string ⟨#[]⟩, .int .i64 0, .bool false], .int .i64 3]) (by simp [results, Tryz.results63, go_sem, z0, z1, z2, z3]) rfl ⟨rfl, hbF⟩
    · have hk1 : ((n1 : Int) == 1) = false := by rw [beq_eq_false_iff_ne]; omega
      have hk2 : ((n1 : Int) == 2) = false := by rw [beq_eq_false_iff_ne]; omega
      have hk3 : ((n1 : Int) != 1) = true := by rw [bne_iff_ne]; omega
      have hk4 : ((n1 : Int) != 2) = true := by rw [bne_iff_ne]; omega
      clear h1 h2 HH HRI
      refine HD.out.mono ?_
      rintro x w8 ⟨rfl, rfl⟩
      have hb8 := Below.refl w7.heap.size w7
      have hat8 := at_below hat6' hb8
      obtain ⟨c0, c1, c2, c3⟩ := cells4 hat8
      obtain ⟨f0, f1, f2, f3⟩ := frozen4 hat8
      have hbw7 := chain hbw6' hb8
      clear q0 q1 q2 q3 hat6' hE6' hI6' hbw6' hb8 HD
      go_wp2_with fail
      have hF := heap_setCell_at (heap_setCell_at (heap_setCell_at (heap_setCell_at hat8 0 (.string ⟨#[]⟩)) 1 (.string ⟨#[]⟩)) 2 (.int .i64 0)) 3 (.bool false)
      have hG := only_trans (only_trans (only_trans (only_setCell w7 w.heap.size 0 (.string ⟨#[]⟩)) (only_setCell _ w.heap.size 1 (.string ⟨#[]⟩))) (only_setCell _ w.heap.size 2 (.int .i64 0))) (only_setCell _ w.heap.size 3 (.bool false))
      have hbF := chainG hbw7 hG (Nat.le_refl _)
      generalize (World.setCell _ ⟨w.heap.size, 3, none⟩ (Value.bool false)) = wF at *
      replace hF : wF.heap[w.heap.size]? = some (.cells #[.string ⟨#[]⟩, .string ⟨#[]⟩, .int .i64 0, .bool false] 115) := hF
      obtain ⟨z0, z1, z2, z3⟩ := cells4 hF
      exact bodyPost_ret (v := .tuple #[.agg #[.string ⟨#[]⟩, .string ⟨#[]⟩, .int .i64 0, .bool false], .int .i64 3]) (by simp [results, Tryz.results63, go_sem, z0, z1, z2, z3]) rfl ⟨rfl, hbF⟩
  · have h1' : s4.done = false := by simpa using h1
    unfold St.done at h1'
    rw [h1'] at hdn
    have HD := Lib.hid hdn
    clear hdn h1 h1' HH HRI
    refine HD.out.mono ?_
    rintro x w8 ⟨rfl, rfl⟩
    have hb8 := Below.refl w7.heap.size w7
    have hat8 := at_below hat6' hb8
    obtain ⟨c0, c1, c2, c3⟩ := cells4 hat8
    obtain ⟨f0, f1, f2, f3⟩ := frozen4 hat8
    have hbw7 := chain hbw6' hb8
    clear q0 q1 q2 q3 hat6' hE6' hI6' hbw6' hb8 HD
    go_wp2_with fail
    have hF := heap_setCell_at (heap_setCell_at (heap_setCell_at (heap_setCell_at hat8 0 (.string ⟨#[]⟩)) 1 (.string ⟨#[]⟩)) 2 (.int .i64 0)) 3 (.bool false)
    have hG := only_trans (only_trans (only_trans (only_setCell w7 w.heap.size 0 (.string ⟨#[]⟩)) (only_setCell _ w.heap.size 1 (.string ⟨#[]⟩))) (only_setCell _ w.heap.size 2 (.int .i64 0))) (only_setCell _ w.heap.size 3 (.bool false))
    have hbF := chainG hbw7 hG (Nat.le_refl _)
    generalize (World.setCell _ ⟨w.heap.size, 3, none⟩ (Value.bool false)) = wF at *
    replace hF : wF.heap[w.heap.size]? = some (.cells #[.string ⟨#[]⟩, .string ⟨#[]⟩, .int .i64 0, .bool false] 115) := hF
    obtain ⟨z0, z1, z2, z3⟩ := cells4 hF
    exact bodyPost_ret (v := .tuple #[.agg #[.string ⟨#[]⟩, .string ⟨#[]⟩, .int .i64 0, .bool false], .int .i64 3]) (by simp [results, Tryz.results63, go_sem, z0, z1, z2, z3]) rfl ⟨rfl, hbF⟩
end Go.Proofs.YtnkjekkdndjfaaaGreat
