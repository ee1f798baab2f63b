
/- Chapter 10: redo.Read. -/
import Derived.Test.YtcpkaolfafeojaaRedoB
import Derived.Test.YtcpkaolfafeojaaRef03b
namespace Go.Proofs.Ytcpkaolfafeojaa
set_option linter.unusedVariables false
set_option linter.unusedSimpArgs false
open Go.RowKit

theorem St.u_four_lt (s : St) : (s.u 4).1 < 4294967296 := by
  unfold St.u
  rw [if_neg (by omega)]
  simp only
  rcases St.bytes_length s 4 with h | h
  · have h1 := num_lt_pw (s.bytes 4).1 (by omega)
    have : 256 ^ (s.bytes 4).1.length ≤ 256 ^ 4 := Nat.pow_le_pow_right (by omega) (by omega)
    omega
  · rw [h]; decide

/-- redo.text -/
theorem rtext10 (g : Nat) (s : St) (w : World) (h : IsRdr w g s) :
    Calls Try.prog 65 #[.pointer (some ⟨g, 0, none⟩)] w fun e w' => e = .returned (.string ⟨s.long.1.toArray⟩) ∧ IsRdr w' g s.long.2 ∧ w.grownBy w' (some g) := by
  have hlt := s.u_four_lt
  have hu := u_any g s 4 w h
  unfold St.long
  generalize (s.u 4).1 = n at *
  generalize (s.u 4).2 = s1 at *
  have HU := Lib.hid hu
  clear hu
  go_enter Try.func65, Try.ntmps65
  go_wp2_with (first | (go_at_call 64; refine HU.out.mono ?_; rintro e w1 ⟨rfl, hI1, hG1⟩) | (go_at_call 82; refine (bytes_any g _ _ _ hI1).mono ?_; rintro e w3 ⟨A, rfl, hr3, hI3, hG3⟩; have hcv := conv_str hr3))
  go_ret
  exact ⟨rfl, hI3, only_trans hG1 hG3⟩

def Eff.zero : Eff := ⟨⟨#[]⟩, ⟨#[]⟩, 0, false⟩
theorem cell_only {w w' : World} {g b i : Nat} {v : Value} (hG : w.grownBy w' (some g)) (h : w.cell? ⟨b, i, none⟩ = some v) (hne : b ≠ g) : w'.cell? ⟨b, i, none⟩ = some v := by
  have hlt := World.block_lt_of_cell? w _ h
  have hb := hG.block b hlt (by intro e; injection e with e; exact hne e)
  unfold World.cell? at h ⊢
  rw [hb]
  exact h

theorem only_at {w w' : World} {g b : Nat} {o : Obj} (hG : w.grownBy w' (some g)) (h : w.heap[b]? = some o) (hne : b ≠ g) : w'.heap[b]? = some o :=
  (hG.block b (Array.getElem?_eq_some_iff.1 h).1 (by intro e; injection e with e; exact hne e)).trans h
theorem frozen4 {w : World} {g : Nat} {a b c d : Value} {t : TypeId} (h : w.heap[g]? = some (.cells #[a, b, c, d] t)) :
    w.frozen? ⟨g, 0, none⟩ = false ∧ w.frozen? ⟨g, 1, none⟩ = false ∧ w.frozen? ⟨g, 2, none⟩ = false ∧ w.frozen? ⟨g, 3, none⟩ = false := by
  refine ⟨by simp [World.frozen?, h], by simp [World.frozen?, h], by simp [World.frozen?, h], by simp [World.frozen?, h]⟩
theorem sgn_wrap (n : Nat) (h : n < 18446744073709551616) : IntKind.i64.wrap (n : Int) = sgn n := by
  unfold sgn
  by_cases hn : n < 9223372036854775808
  · rw [if_pos hn]
    simp [IntKind.wrap, IntKind.bits, IntKind.signed]
    omega
  · rw [if_neg hn]
    simp [IntKind.wrap, IntKind.bits, IntKind.signed]
    omega
set_option maxRecDepth 100000 in
set_option maxHeartbeats 2000000 in
theorem eread_ok (A : Option Addr) (n c : Nat) (b : List UInt8) (w : World) (hr : RdB w w.heap.size A n c b) (hn : n ≤ 1099511627776) (h : okE b) :
    Calls Try.prog 34 #[.slice A n c] w fun x w' => x = .returned (.tuple #[(rdE b).e.val, .int .i64 0]) ∧ Below w.heap.size w w' := by
  have hb0 : Below w.heap.size w (w.alloc (.cells Eff.zero.cells 60)) := (Below.refl _ _).alloc (Nat.le_refl _) _
  have hc0 := heap_alloc_new w (.cells Eff.zero.cells 60)
  have hnew := new_any A n c b (w.alloc (.cells Eff.zero.cells 60)) ((hr.alloc (Nat.le_refl _) _).more (by simp)) hn
  unfold okE rdE at *
  simp only at h ⊢
  generalize (⟨b, false⟩ : St) = s0 at *
  have hu1 := fun g w h => u_any g s0 1 w h
  generalize hs1 : s0.u 1 = s1 at *
  obtain ⟨n1, s1⟩ := s1
  have hu2 := fun g w h => u_any g s1 8 w h
  have hlt2 := St.u_lt s1 8
  simp only at h hu1 hu2 hlt2 ⊢
  generalize hs2 : s1.u 8 = s2 at *
  obtain ⟨n2, s2⟩ := s2
  have ht3 := fun g w h => rtext10 g s2 w h
  simp only at h hu2 ht3 hlt2 ⊢
  generalize hs3 : s2.long = s3 at *
  obtain ⟨t3, s3⟩ := s3
  have ht4 := fun g w h => rtext10 g s3 w h
  simp only at h ht3 ht4 ⊢
  generalize hs4 : s3.long = s4 at *
  obtain ⟨t4, s4⟩ := s4
  have hri := fun w => right_any ⟨⟨t3.toArray⟩, ⟨t4.toArray⟩, sgn n2, decide (n1 = 2)⟩ w
  unfold Eff.val Eff.cells at hri
  simp only at h ht4 hri ⊢
  have hsg := sgn_wrap n2 hlt2
  obtain ⟨d, hd⟩ : ∃ d, decide (n1 = 2) = d := ⟨_, rfl⟩
  have hk2 : ((n1 : Int) == 2) = d := by rw [← hd, Bool.eq_iff_iff]; simp; omega
  rw [hd] at h hri ⊢
  have HK := Lib.hid hk2
  clear hk2
  clear hs1 hs2 hs3 hs4 hlt2
  have H1 := Lib.hid hu1
  have H2 := Lib.hid hu2
  have H3 := Lib.hid ht3
  have H4 := Lib.hid ht4
  have HN := Lib.hid hnew
  have HC := Lib.hid hc0
  have HB0 := Lib.hid hb0
  have HH := Lib.hid h
  have HRI := Lib.hid hri
  clear hu1 hu2 ht3 ht4 hnew hc0 hb0 h hri
  go_enter Try.func34, Try.ntmps34
  go_wp2_with fail
  refine HN.out.mono ?_
  rintro x w1 ⟨g, rfl, hg, hI1, hb1⟩
  have hat1 := at_below HC.out hb1
  have hbw1 := chain HB0.out hb1
  clear HC HB0 hb1 HN
  have hg2 : w.heap.size + 1 ≤ g := by simpa using hg
  clear hg
  have hgne : w.heap.size ≠ g := by omega
  go_wp2_with fail
  refine (H1.out _ _ hI1).mono ?_
  rintro x w2 ⟨rfl, hI2, hG2⟩
  have hat2 := only_at hG2 hat1 hgne
  have hbw2 := chainG hbw1 hG2 (by omega)
  clear hI1 hat1 hbw1 hG2 H1
  go_wp2_with fail
  refine (H2.out _ _ hI2).mono ?_
  rintro x w3 ⟨rfl, hI3, hG3⟩
  have hat3 := only_at hG3 hat2 hgne
  have hbw3 := chainG hbw2 hG3 (by omega)
  clear hI2 hat2 hbw2 hG3 H2
  go_wp2_with fail
  rw [HK.out]
  have hE3 := heap_alloc_new w3 (.cells #[.string ⟨#[]⟩, .string ⟨#[]⟩, .int .i64 (sgn n2), .bool d] 60)
  have hal : Below w3.heap.size w3 (w3.alloc (.cells #[.string ⟨#[]⟩, .string ⟨#[]⟩, .int .i64 (sgn n2), .bool d] 60)) := (Below.refl _ _).alloc (Nat.le_refl _) _
  have hat3' := at_below hat3 hal
  have hI3' := hI3.alloc (.cells #[.string ⟨#[]⟩, .string ⟨#[]⟩, .int .i64 (sgn n2), .bool d] 60)
  have hbw3' := chain hbw3 hal
  have hgl := hI3.lt
  have hws := hbw3.size
  refine (H3.out _ _ hI3').mono ?_
  generalize hge : w3.heap.size = ge at *
  have hne : ge ≠ g := by omega
  have hne2 : w.heap.size ≠ ge := by omega
  rintro x w4 ⟨rfl, hI4, hG4⟩
  have hE4 := only_at hG4 hE3 hne
  have hat4 := only_at hG4 hat3' hgne
  have hbw4 := chainG hbw3' hG4 (by omega)
  obtain ⟨q0, q1, q2, q3⟩ := cells4 hE4
  obtain ⟨f0, f1, f2, f3⟩ := frozen4 hE4
  clear hal hat3 hat3' hI3 hI3' hbw3 hbw3' hG4 H3 hE3 hsg HK hge
  go_wp2_with fail
  have hE4' := heap_setCell_at hE4 0 (.string ⟨t3.toArray⟩)
  have hS4 := only_setCell w4 ge 0 (.string ⟨t3.toArray⟩)
  have hI4' := hI4.other hS4 hgl
  have hat4' := only_at hS4 hat4 hne2
  have hbw4' := chainG hbw4 hS4 hws
  generalize w4.setCell ⟨ge, 0, none⟩ (.string ⟨t3.toArray⟩) = w5 at *
  replace hE4' : w5.heap[ge]? = some (.cells #[.string ⟨t3.toArray⟩, .string ⟨#[]⟩, .int .i64 (sgn n2), .bool d] 60) := hE4'
  clear hS4 hbw4 hat4 hI4 hE4 q0 q1 q2 q3 f0 f1 f2 f3
  refine (H4.out _ _ hI4').mono ?_
  rintro x w6 ⟨rfl, hI6, hG6⟩
  have hE6 := only_at hG6 hE4' hne
  have hat6 := only_at hG6 hat4' hgne
  have hbw6 := chainG hbw4' hG6 (by omega)
  obtain ⟨q0, q1, q2, q3⟩ := cells4 hE6
  obtain ⟨f0, f1, f2, f3⟩ := frozen4 hE6
  clear hE4' hI4' hat4' hbw4' hG6 H4
  go_wp2_with fail
  have hE6' := heap_setCell_at hE6 1 (.string ⟨t4.toArray⟩)
  have hS6 := only_setCell w6 ge 1 (.string ⟨t4.toArray⟩)
  have hI6' := hI6.other hS6 hgl
  have hat6' := only_at hS6 hat6 hne2
  have hbw6' := chainG hbw6 hS6 hws
  generalize w6.setCell ⟨ge, 1, none⟩ (.string ⟨t4.toArray⟩) = w7 at *
  replace hE6' : w7.heap[ge]? = some (.cells #[.string ⟨t3.toArray⟩, .string ⟨t4.toArray⟩, .int .i64 (sgn n2), .bool d] 60) := hE6'
  clear hS6 hbw6 hat6 hI6 hE6 q0 q1 q2 q3 f0 f1 f2 f3
  have hdn := done_any g s4 w7 hI6'
  obtain ⟨h1, h2, h3⟩ := HH.out
  unfold St.done at h1
  rw [h1] at hdn
  have HD := Lib.hid hdn
  have hri := HRI.out
  rw [decide_eq_true h3] at hri
  have HR := Lib.hid hri
  clear hdn hri HRI h1 h3 HH
  obtain ⟨q0, q1, q2, q3⟩ := cells4 hE6'
  obtain ⟨c0, c1, c2, c3⟩ := cells4 hat6'
  obtain ⟨f0, f1, f2, f3⟩ := frozen4 hat6'
  refine HD.out.mono ?_
  rintro x w8 ⟨rfl, rfl⟩
  rcases h2 with rfl | rfl
  · clear c0 c1 c2 c3 f0 f1 f2 f3
    go_wp2_with fail
    refine (HR.out _).mono ?_
    rintro x w8 ⟨rfl, hb8⟩
    have hat8 := at_below hat6' hb8
    obtain ⟨p0, p1, p2, p3⟩ := cells4 (at_below hE6' hb8)
    obtain ⟨c0, c1, c2, c3⟩ := cells4 hat8
    obtain ⟨f0, f1, f2, f3⟩ := frozen4 hat8
    have hbw8 := chain hbw6' hb8
    clear q0 q1 q2 q3 hat6' hE6' hI6' hbw6' hb8 HR HD
    go_wp2_with fail
    have hF := heap_setCell_at (heap_setCell_at (heap_setCell_at (heap_setCell_at hat8 0 (.string ⟨t3.toArray⟩)) 1 (.string ⟨t4.toArray⟩)) 2 (.int .i64 (sgn n2))) 3 (.bool d)
    have hG := only_trans (only_trans (only_trans (only_setCell w8 w.heap.size 0 (.string ⟨t3.toArray⟩)) (only_setCell _ w.heap.size 1 (.string ⟨t4.toArray⟩))) (only_setCell _ w.heap.size 2 (.int .i64 (sgn n2)))) (only_setCell _ w.heap.size 3 (.bool d))
    have hbF := chainG hbw8 hG (Nat.le_refl _)
    generalize (World.setCell _ ⟨w.heap.size, 3, none⟩ (Value.bool d)) = wF at *
    replace hF : wF.heap[w.heap.size]? = some (.cells #[.string ⟨t3.toArray⟩, .string ⟨t4.toArray⟩, .int .i64 (sgn n2), .bool d] 60) := hF
    obtain ⟨z0, z1, z2, z3⟩ := cells4 hF
    exact bodyPost_ret (v := .tuple #[.agg #[.string ⟨t3.toArray⟩, .string ⟨t4.toArray⟩, .int .i64 (sgn n2), .bool d], .int .i64 0]) (by simp [results, Try.results34, go_sem, z0, z1, z2, z3]) rfl ⟨rfl, hbF⟩
  · clear c0 c1 c2 c3 f0 f1 f2 f3
    go_wp2_with fail
    refine (HR.out _).mono ?_
    rintro x w8 ⟨rfl, hb8⟩
    have hat8 := at_below hat6' hb8
    obtain ⟨p0, p1, p2, p3⟩ := cells4 (at_below hE6' hb8)
    obtain ⟨c0, c1, c2, c3⟩ := cells4 hat8
    obtain ⟨f0, f1, f2, f3⟩ := frozen4 hat8
    have hbw8 := chain hbw6' hb8
    clear q0 q1 q2 q3 hat6' hE6' hI6' hbw6' hb8 HR HD
    go_wp2_with fail
    have hF := heap_setCell_at (heap_setCell_at (heap_setCell_at (heap_setCell_at hat8 0 (.string ⟨t3.toArray⟩)) 1 (.string ⟨t4.toArray⟩)) 2 (.int .i64 (sgn n2))) 3 (.bool d)
    have hG := only_trans (only_trans (only_trans (only_setCell w8 w.heap.size 0 (.string ⟨t3.toArray⟩)) (only_setCell _ w.heap.size 1 (.string ⟨t4.toArray⟩))) (only_setCell _ w.heap.size 2 (.int .i64 (sgn n2)))) (only_setCell _ w.heap.size 3 (.bool d))
    have hbF := chainG hbw8 hG (Nat.le_refl _)
    generalize (World.setCell _ ⟨w.heap.size, 3, none⟩ (Value.bool d)) = wF at *
    replace hF : wF.heap[w.heap.size]? = some (.cells #[.string ⟨t3.toArray⟩, .string ⟨t4.toArray⟩, .int .i64 (sgn n2), .bool d] 60) := hF
    obtain ⟨z0, z1, z2, z3⟩ := cells4 hF
    exact bodyPost_ret (v := .tuple #[.agg #[.string ⟨t3.toArray⟩, .string ⟨t4.toArray⟩, .int .i64 (sgn n2), .bool d], .int .i64 0]) (by simp [results, Try.results34, go_sem, z0, z1, z2, z3]) rfl ⟨rfl, hbF⟩
set_option maxRecDepth 100000 in
set_option maxHeartbeats 2000000 in
theorem eread_bad (A : Option Addr) (n c : Nat) (b : List UInt8) (w : World) (hr : RdB w w.heap.size A n c b) (hn : n ≤ 1099511627776) (h : ¬ okE b) :
    Calls Try.prog 34 #[.slice A n c] w fun x w' => x = .returned (.tuple #[Eff.zero.val, .int .i64 3]) ∧ Below w.heap.size w w' := by
  have hb0 : Below w.heap.size w (w.alloc (.cells Eff.zero.cells 60)) := (Below.refl _ _).alloc (Nat.le_refl _) _
  have hc0 := heap_alloc_new w (.cells Eff.zero.cells 60)
  have hnew := new_any A n c b (w.alloc (.cells Eff.zero.cells 60)) ((hr.alloc (Nat.le_refl _) _).more (by simp)) hn
  unfold okE rdE at *
  simp only at h
  generalize (⟨b, false⟩ : St) = s0 at *
  have hu1 := fun g w h => u_any g s0 1 w h
  generalize hs1 : s0.u 1 = s1 at *
  obtain ⟨n1, s1⟩ := s1
  have hu2 := fun g w h => u_any g s1 8 w h
  have hlt2 := St.u_lt s1 8
  simp only at h hu1 hu2 hlt2
  generalize hs2 : s1.u 8 = s2 at *
  obtain ⟨n2, s2⟩ := s2
  have ht3 := fun g w h => rtext10 g s2 w h
  simp only at h hu2 ht3 hlt2
  generalize hs3 : s2.long = s3 at *
  obtain ⟨t3, s3⟩ := s3
  have ht4 := fun g w h => rtext10 g s3 w h
  simp only at h ht3 ht4
  generalize hs4 : s3.long = s4 at *
  obtain ⟨t4, s4⟩ := s4
  have hri := fun w => right_any ⟨⟨t3.toArray⟩, ⟨t4.toArray⟩, sgn n2, decide (n1 = 2)⟩ w
  unfold Eff.val Eff.cells at hri
  simp only at h ht4 hri
  have hsg := sgn_wrap n2 hlt2
  obtain ⟨d, hd⟩ : ∃ d, decide (n1 = 2) = d := ⟨_, rfl⟩
  have hk2 : ((n1 : Int) == 2) = d := by rw [← hd, Bool.eq_iff_iff]; simp; omega
  rw [hd] at h hri
  have HK := Lib.hid hk2
  clear hk2
  clear hs1 hs2 hs3 hs4 hlt2
  have H1 := Lib.hid hu1
  have H2 := Lib.hid hu2
  have H3 := Lib.hid ht3
  have H4 := Lib.hid ht4
  have HN := Lib.hid hnew
  have HC := Lib.hid hc0
  have HB0 := Lib.hid hb0
  have HH := Lib.hid h
  have HRI := Lib.hid hri
  clear hu1 hu2 ht3 ht4 hnew hc0 hb0 h hri
  go_enter Try.func34, Try.ntmps34
  go_wp2_with fail
  refine HN.out.mono ?_
  rintro x w1 ⟨g, rfl, hg, hI1, hb1⟩
  have hat1 := at_below HC.out hb1
  have hbw1 := chain HB0.out hb1
  clear HC HB0 hb1 HN
  have hg2 : w.heap.size + 1 ≤ g := by simpa using hg
  clear hg
  have hgne : w.heap.size ≠ g := by omega
  go_wp2_with fail
  refine (H1.out _ _ hI1).mono ?_
  rintro x w2 ⟨rfl, hI2, hG2⟩
  have hat2 := only_at hG2 hat1 hgne
  have hbw2 := chainG hbw1 hG2 (by omega)
  clear hI1 hat1 hbw1 hG2 H1
  go_wp2_with fail
  refine (H2.out _ _ hI2).mono ?_
  rintro x w3 ⟨rfl, hI3, hG3⟩
  have hat3 := only_at hG3 hat2 hgne
  have hbw3 := chainG hbw2 hG3 (by omega)
  clear hI2 hat2 hbw2 hG3 H2
  go_wp2_with fail
  rw [HK.out]
  have hE3 := heap_alloc_new w3 (.cells #[.string ⟨#[]⟩, .string ⟨#[]⟩, .int .i64 (sgn n2), .bool d] 60)
  have hal : Below w3.heap.size w3 (w3.alloc (.cells #[.string ⟨#[]⟩, .string ⟨#[]⟩, .int .i64 (sgn n2), .bool d] 60)) := (Below.refl _ _).alloc (Nat.le_refl _) _
  have hat3' := at_below hat3 hal
  have hI3' := hI3.alloc (.cells #[.string ⟨#[]⟩, .string ⟨#[]⟩, .int .i64 (sgn n2), .bool d] 60)
  have hbw3' := chain hbw3 hal
  have hgl := hI3.lt
  have hws := hbw3.size
  refine (H3.out _ _ hI3').mono ?_
  generalize hge : w3.heap.size = ge at *
  have hne : ge ≠ g := by omega
  have hne2 : w.heap.size ≠ ge := by omega
  rintro x w4 ⟨rfl, hI4, hG4⟩
  have hE4 := only_at hG4 hE3 hne
  have hat4 := only_at hG4 hat3' hgne
  have hbw4 := chainG hbw3' hG4 (by omega)
  obtain ⟨q0, q1, q2, q3⟩ := cells4 hE4
  obtain ⟨f0, f1, f2, f3⟩ := frozen4 hE4
  clear hal hat3 hat3' hI3 hI3' hbw3 hbw3' hG4 H3 hE3 hsg HK hge
  go_wp2_with fail
  have hE4' := heap_setCell_at hE4 0 (.string ⟨t3.toArray⟩)
  have hS4 := only_setCell w4 ge 0 (.string ⟨t3.toArray⟩)
  have hI4' := hI4.other hS4 hgl
  have hat4' := only_at hS4 hat4 hne2
  have hbw4' := chainG hbw4 hS4 hws
  generalize w4.setCell ⟨ge, 0, none⟩ (.string ⟨t3.toArray⟩) = w5 at *
  replace hE4' : w5.heap[ge]? = some (.cells #[.string ⟨t3.toArray⟩, .string ⟨#[]⟩, .int .i64 (sgn n2), .bool d] 60) := hE4'
  clear hS4 hbw4 hat4 hI4 hE4 q0 q1 q2 q3 f0 f1 f2 f3
  refine (H4.out _ _ hI4').mono ?_
  rintro x w6 ⟨rfl, hI6, hG6⟩
  have hE6 := only_at hG6 hE4' hne
  have hat6 := only_at hG6 hat4' hgne
  have hbw6 := chainG hbw4' hG6 (by omega)
  obtain ⟨q0, q1, q2, q3⟩ := cells4 hE6
  obtain ⟨f0, f1, f2, f3⟩ := frozen4 hE6
  clear hE4' hI4' hat4' hbw4' hG6 H4
  go_wp2_with fail
  have hE6' := heap_setCell_at hE6 1 (.string ⟨t4.toArray⟩)
  have hS6 := only_setCell w6 ge 1 (.string ⟨t4.toArray⟩)
  have hI6' := hI6.other hS6 hgl
  have hat6' := only_at hS6 hat6 hne2
  have hbw6' := chainG hbw6 hS6 hws
  generalize w6.setCell ⟨ge, 1, none⟩ (.string ⟨t4.toArray⟩) = w7 at *
  replace hE6' : w7.heap[ge]? = some (.cells #[.string ⟨t3.toArray⟩, .string ⟨t4.toArray⟩, .int .i64 (sgn n2), .bool d] 60) := hE6'
  clear hS6 hbw6 hat6 hI6 hE6 q0 q1 q2 q3 f0 f1 f2 f3
  have hdn := done_any g s4 w7 hI6'
  obtain ⟨q0, q1, q2, q3⟩ := cells4 hE6'
  by_cases h1 : s4.done = true
  · unfold St.done at h1
    rw [h1] at hdn
    have HD := Lib.hid hdn
    clear hdn
    by_cases h2 : n1 = 1 ∨ n1 = 2
    · have h3 : ¬ Eff.right ⟨⟨t3.toArray⟩, ⟨t4.toArray⟩, sgn n2, d⟩ := fun h3 => HH.out ⟨h1, h2, h3⟩
      have hri := HRI.out
      rw [decide_eq_false h3] at hri
      have HR := Lib.hid hri
      clear hri HRI h1 h3 HH
      refine HD.out.mono ?_
      rintro x w8 ⟨rfl, rfl⟩
      rcases h2 with rfl | rfl
      · go_wp2_with fail
        refine (HR.out _).mono ?_
        rintro x w8 ⟨rfl, hb8⟩
        have hat8 := at_below hat6' hb8
        obtain ⟨c0, c1, c2, c3⟩ := cells4 hat8
        obtain ⟨f0, f1, f2, f3⟩ := frozen4 hat8
        have hbw8 := chain hbw6' hb8
        clear q0 q1 q2 q3 hat6' hE6' hI6' hbw6' hb8 HD HR
        go_wp2_with fail
        have hF := heap_setCell_at (heap_setCell_at (heap_setCell_at (heap_setCell_at hat8 0 (.string ⟨#[]⟩)) 1 (.string ⟨#[]⟩)) 2 (.int .i64 0)) 3 (.bool false)
        have hG := only_trans (only_trans (only_trans (only_setCell w8 w.heap.size 0 (.string ⟨#[]⟩)) (only_setCell _ w.heap.size 1 (.string ⟨#[]⟩))) (only_setCell _ w.heap.size 2 (.int .i64 0))) (only_setCell _ w.heap.size 3 (.bool false))
        have hbF := chainG hbw8 hG (Nat.le_refl _)
        generalize (World.setCell _ ⟨w.heap.size, 3, none⟩ (Value.bool false)) = wF at *
        replace hF : wF.heap[w.heap.size]? = some (.cells #[.string ⟨#[]⟩, .string ⟨#[]⟩, .int .i64 0, .bool false] 60) := hF
        obtain ⟨z0, z1, z2, z3⟩ := cells4 hF
        exact bodyPost_ret (v := .tuple #[.agg #[.string ⟨#[]⟩, .string ⟨#[]⟩, .int .i64 0, .bool false], .int .i64 3]) (by simp [results, Try.results34, go_sem, z0, z1, z2, z3]) rfl ⟨rfl, hbF⟩
      · go_wp2_with fail
        refine (HR.out _).mono ?_
        rintro x w8 ⟨rfl, hb8⟩
        have hat8 := at_below hat6' hb8
        obtain ⟨c0, c1, c2, c3⟩ := cells4 hat8
        obtain ⟨f0, f1, f2, f3⟩ := frozen4 hat8
        have hbw8 := chain hbw6' hb8
        clear q0 q1 q2 q3 hat6' hE6' hI6' hbw6' hb8 HD HR
        go_wp2_with fail
        have hF := heap_setCell_at (heap_setCell_at (heap_setCell_at (heap_setCell_at hat8 0 (.string ⟨#[]⟩)) 1 (.string ⟨#[]⟩)) 2 (.int .i64 0)) 3 (.bool false)
        have hG := only_trans (only_trans (only_trans (only_setCell w8 w.heap.size 0 (.string ⟨#[]⟩)) (only_setCell _ w.heap.size 1 (.string ⟨#[]⟩))) (only_setCell _ w.heap.size 2 (.int .i64 0))) (only_setCell _ w.heap.size 3 (.bool false))
        have hbF := chainG hbw8 hG (Nat.le_refl _)
        generalize (World.setCell _ ⟨w.heap.size, 3, none⟩ (Value.bool false)) = wF at *
        replace hF : wF.heap[w.heap.size]? = some (.cells #[.string ⟨#[]⟩, .string ⟨#[]⟩, .int .i64 0, .bool false] 60) := hF
        obtain ⟨z0, z1, z2, z3⟩ := cells4 hF
        exact bodyPost_ret (v := .tuple #[.agg #[.string ⟨#[]⟩, .string ⟨#[]⟩, .int .i64 0, .bool false], .int .i64 3]) (by simp [results, Try.results34, go_sem, z0, z1, z2, z3]) rfl ⟨rfl, hbF⟩
    · have hk1 : ((n1 : Int) == 1) = false := by rw [beq_eq_false_iff_ne]; omega
      have hk2 : ((n1 : Int) == 2) = false := by rw [beq_eq_false_iff_ne]; omega
      have hk3 : ((n1 : Int) != 1) = true := by rw [bne_iff_ne]; omega
      have hk4 : ((n1 : Int) != 2) = true := by rw [bne_iff_ne]; omega
      clear h1 h2 HH HRI
      refine HD.out.mono ?_
      rintro x w8 ⟨rfl, rfl⟩
      have hb8 := Below.refl w7.heap.size w7
      have hat8 := at_below hat6' hb8
      obtain ⟨c0, c1, c2, c3⟩ := cells4 hat8
      obtain ⟨f0, f1, f2, f3⟩ := frozen4 hat8
      have hbw7 := chain hbw6' hb8
      clear q0 q1 q2 q3 hat6' hE6' hI6' hbw6' hb8 HD
      go_wp2_with fail
      have hF := heap_setCell_at (heap_setCell_at (heap_setCell_at (heap_setCell_at hat8 0 (.string ⟨#[]⟩)) 1 (.string ⟨#[]⟩)) 2 (.int .i64 0)) 3 (.bool false)
      have hG := only_trans (only_trans (only_trans (only_setCell w7 w.heap.size 0 (.string ⟨#[]⟩)) (only_setCell _ w.heap.size 1 (.string ⟨#[]⟩))) (only_setCell _ w.heap.size 2 (.int .i64 0))) (only_setCell _ w.heap.size 3 (.bool false))
      have hbF := chainG hbw7 hG (Nat.le_refl _)
      generalize (World.setCell _ ⟨w.heap.size, 3, none⟩ (Value.bool false)) = wF at *
      replace hF : wF.heap[w.heap.size]? = some (.cells #[.string ⟨#[]⟩, .string ⟨#[]⟩, .int .i64 0, .bool false] 60) := hF
      obtain ⟨z0, z1, z2, z3⟩ := cells4 hF
      exact bodyPost_ret (v := .tuple #[.agg #[.string ⟨#[]⟩, .string ⟨#[]⟩, .int .i64 0, .bool false], .int .i64 3]) (by simp [results, Try.results34, go_sem, z0, z1, z2, z3]) rfl ⟨rfl, hbF⟩
  · have h1' : s4.done = false := by simpa using h1
    unfold St.done at h1'
    rw [h1'] at hdn
    have HD := Lib.hid hdn
    clear hdn h1 h1' HH HRI
    refine HD.out.mono ?_
    rintro x w8 ⟨rfl, rfl⟩
    have hb8 := Below.refl w7.heap.size w7
    have hat8 := at_below hat6' hb8
    obtain ⟨c0, c1, c2, c3⟩ := cells4 hat8
    obtain ⟨f0, f1, f2, f3⟩ := frozen4 hat8
    have hbw7 := chain hbw6' hb8
    clear q0 q1 q2 q3 hat6' hE6' hI6' hbw6' hb8 HD
    go_wp2_with fail
    have hF := heap_setCell_at (heap_setCell_at (heap_setCell_at (heap_setCell_at hat8 0 (.string ⟨#[]⟩)) 1 (.string ⟨#[]⟩)) 2 (.int .i64 0)) 3 (.bool false)
    have hG := only_trans (only_trans (only_trans (only_setCell w7 w.heap.size 0 (.string ⟨#[]⟩)) (only_setCell _ w.heap.size 1 (.string ⟨#[]⟩))) (only_setCell _ w.heap.size 2 (.int .i64 0))) (only_setCell _ w.heap.size 3 (.bool false))
    have hbF := chainG hbw7 hG (Nat.le_refl _)
    generalize (World.setCell _ ⟨w.heap.size, 3, none⟩ (Value.bool false)) = wF at *
    replace hF : wF.heap[w.heap.size]? = some (.cells #[.string ⟨#[]⟩, .string ⟨#[]⟩, .int .i64 0, .bool false] 60) := hF
    obtain ⟨z0, z1, z2, z3⟩ := cells4 hF
    exact bodyPost_ret (v := .tuple #[.agg #[.string ⟨#[]⟩, .string ⟨#[]⟩, .int .i64 0, .bool false], .int .i64 3]) (by simp [results, Try.results34, go_sem, z0, z1, z2, z3]) rfl ⟨rfl, hbF⟩
end Go.Proofs.Ytcpkaolfafeojaa
