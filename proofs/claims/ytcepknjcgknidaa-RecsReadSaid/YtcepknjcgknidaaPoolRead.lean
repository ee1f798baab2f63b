
/- Chapter 13: a pool is read. -/
import Derived.Test.YtcepknjcgknidaaPool
namespace Go.Proofs.Ytcepknjcgknidaa
set_option linter.unusedVariables false
set_option linter.unusedSimpArgs false
open Go.RowKit
theorem St.u_four_lt' (s : St) : (s.u 4).1 < 4294967296 := by
  unfold St.u
  rw [if_neg (by omega)]
  simp only
  rcases St.bytes_length s 4 with h | h
  · have h1 := num_lt_pw (s.bytes 4).1 (by omega)
    have : 256 ^ (s.bytes 4).1.length ≤ 256 ^ 4 := Nat.pow_le_pow_right (by omega) (by omega)
    omega
  · rw [h]; decide
def Pool.zero : Pool := ⟨0, 0, false⟩
set_option maxRecDepth 100000 in
set_option maxHeartbeats 4000000 in
theorem readpool_ok (s : ByteArray) (hs : s.size ≤ 1099511627776) (h : okP s.data.toList) (w : World) : Calls Try.prog 27 #[.string s] w fun x w' => x = .returned (.tuple #[(rdP s.data.toList).p.v, .int .i64 0]) ∧ Below w.heap.size w w' := by
  obtain ⟨P, hP⟩ : ∃ P, P = (rdP s.data.toList).p := ⟨_, rfl⟩
  rw [← hP]
  obtain ⟨hx, hb⟩ := one_at w 42 Pool.zero.row
  have hsz1 : w.heap.size + 1 = (w.alloc (.cells Pool.zero.row.toArray 42)).heap.size := by simp
  generalize hW : w.alloc (.cells Pool.zero.row.toArray 42) = w1 at *
  have HW := Lib.hid hW
  clear hW
  obtain ⟨cap, w2, hcv, hr, hb2⟩ := conv_bytes s w1 hs
  have hlen : s.data.toList.length = s.size := by rw [Array.length_toList]; rfl
  have hnew := new_any _ _ cap _ w2 hr hs
  replace hx := hx.below hb2
  have hsz2 := hb2.size
  replace hb := chain hb hb2
  unfold okP rdP at h
  unfold rdP at hP
  generalize s.data.toList = l at *
  generalize (⟨l, false⟩ : St) = s0 at *
  have hu1 := fun g w h => u_any g s0 1 w h
  have hl1 := St.u_one_lt s0
  generalize hs1 : s0.u 1 = s1 at *
  obtain ⟨n1, s1⟩ := s1
  have hu2 := fun g w h => u_any g s1 4 w h
  have hl2 := St.u_four_lt' s1
  simp only at h hu1 hu2 hl1 hl2 hP
  generalize hs2 : s1.u 4 = s2 at *
  obtain ⟨n2, s2⟩ := s2
  have hu3 := fun g w h => u_any g s2 1 w h
  have hl3 := St.u_one_lt s2
  simp only at h hu2 hu3 hl2 hl3 hP
  generalize hs3 : s2.u 1 = s3 at *
  obtain ⟨n3, s3⟩ := s3
  have hu4 := fun g w h => u_any g s3 1 w h
  have hl4 := St.u_one_lt s3
  simp only at h hu3 hu4 hl3 hl4 hP
  generalize hs4 : s3.u 1 = s4 at *
  obtain ⟨n4, s4⟩ := s4
  have hdn := fun g w h => done_any g s4 w h
  have hri := fun w => rightpool_any ⟨n2, (n3 : Int), decide (n4 = 1)⟩ hl2 w
  unfold RdP.p at *
  simp only at h hu4 hl4 hri hP
  change  (s4.done = true ∧ n1 = 80 ∧ n4 ≤ 1 ∧ Pool.right ⟨n2, (n3 : Int), decide (n4 = 1)⟩ = true) at h
  change ∀ g w h, _ at hdn
  rw [show (!s4.bad && s4.l.isEmpty) = s4.done from rfl] at hdn
  generalize s4.done = d at *
  generalize hrv : Pool.right ⟨n2, (n3 : Int), decide (n4 = 1)⟩ = rv at *
  obtain ⟨o, ho⟩ : ∃ o, decide (n4 = 1) = o := ⟨_, rfl⟩
  have ho2 : ((n4 : Int) == 1) = o := by rw [← ho, Bool.eq_iff_iff]; simp; omega
  rw [ho] at hri
  unfold Pool.v at hri
  unfold Pool.row at hri hx
  unfold Pool.zero at hx
  simp only at hri hx
  have H1 := Lib.hid hu1
  have H2 := Lib.hid hu2
  have H3 := Lib.hid hu3
  have H4 := Lib.hid hu4
  have HD := Lib.hid hdn
  have HN := Lib.hid hnew
  have HX := Lib.hid hx
  have HB := Lib.hid hb
  have HRI := Lib.hid hri
  have HO := Lib.hid ho2
  have HO' := Lib.hid ho
  have HH := Lib.hid h
  have HRV := Lib.hid hrv
  clear hu1 hu2 hu3 hu4 hdn hnew hx hb hri ho2 ho h hrv hs1 hs2 hs3 hs4 hb2 hr
  go_enter Try.func27, Try.ntmps27
  go_upto_region 1 with fail
  rw [show (w.alloc (.cells #[.int .u32 0, .int .i64 0, .bool false] 42)) = w1 from HW.out]
  go_wp2_with fail
  refine HN.out.mono ?_
  rintro x w3 ⟨g, rfl, hg, hI, hb3⟩
  have hx := HX.out.below hb3
  have hb := chain HB.out hb3
  have hne : w.heap.size ≠ g := by omega
  clear HX HB hb3 hcv
  go_wp2_with fail
  refine (H1.out _ _ hI).mono ?_
  rintro x w4 ⟨rfl, hI, hG⟩
  replace hx := hx.only hG hne
  replace hb := chainG hb hG (by omega)
  clear hG H1
  go_wp2_with fail
  refine (H2.out _ _ hI).mono ?_
  rintro x w5 ⟨rfl, hI, hG⟩
  replace hx := hx.only hG hne
  replace hb := chainG hb hG (by omega)
  clear hG H2
  go_wp2_with fail
  refine (H3.out _ _ hI).mono ?_
  rintro x w6 ⟨rfl, hI, hG⟩
  replace hx := hx.only hG hne
  replace hb := chainG hb hG (by omega)
  clear hG H3
  go_upto_region 4 with fail
  obtain ⟨hp, hb6⟩ := one_at w6 42 [.int .u32 (n2 : Int), .int .i64 (n3 : Int), .bool false]
  have hgl : g < w6.heap.size := hI.lt
  have hgp : g ≠ w6.heap.size := by omega
  have hwp : w.heap.size < w6.heap.size := hx.lt
  replace hx := hx.below hb6
  replace hI := hI.below hb6
  replace hb := chain hb hb6
  clear hb6
  generalize World.alloc _ _ = w7 at *
  generalize w6.heap.size = gp at *
  go_wp2_with fail
  refine (H4.out _ _ hI).mono ?_
  rintro x w8 ⟨rfl, hI, hG⟩
  replace hx := hx.only hG hne
  replace hp := hp.only hG hgp.symm
  replace hb := chainG hb hG (by omega)
  clear hG H4
  obtain ⟨⟨c0, c1, c2⟩, f0, f1, f2⟩ := at3 hp
  go_upto_region 6 with fail
  rw [HO.out]
  have hG := grown_set w8 gp 2 (.bool o)
  have hI' : IsRdr (w8.setCell ⟨gp, 2, none⟩ (.bool o)) g s4 := by
    obtain ⟨A, n, c, q1, q2⟩ := hI
    exact ⟨A, n, c, At.only (t := 107) (cs := [.slice A n c, .bool s4.bad]) q1 hG hgp, q2.setCell (by show g ≤ gp; omega) _⟩
  replace hx := hx.only hG (by omega)
  replace hp := hp.set 2 (.bool o)
  replace hb := chainG hb hG (by omega)
  simp only [List.set_cons_zero, List.set_cons_succ] at hp
  clear hG hI c0 c1 c2 f0 f1 f2
  generalize World.setCell _ _ _ = w9 at *
  obtain ⟨⟨c0, c1, c2⟩, _⟩ := at3 hp
  obtain ⟨⟨z0, z1, z2⟩, k0, k1, k2⟩ := at3 hx
  rw [HO'.out] at hP
  subst hP
  obtain ⟨hd, ht, ho1, hr⟩ := HH.out
  subst hd
  subst ht
  subst hr
  have hn4 : ¬ 1 < n4 := by omega
  clear HH HRV
  go_wp2_with fail
  refine (HD.out _ _ hI').mono ?_
  rintro x w10 ⟨rfl, rfl⟩
  go_wp2_with fail
  refine (HRI.out _).mono ?_
  rintro x w11 ⟨rfl, hb11⟩
  replace hx := hx.below hb11
  replace hp := hp.below hb11
  replace hb := chain hb hb11
  clear hb11 c0 c1 c2 z0 z1 z2 k0 k1 k2 hI'
  obtain ⟨⟨c0, c1, c2⟩, _⟩ := at3 hp
  obtain ⟨⟨z0, z1, z2⟩, k0, k1, k2⟩ := at3 hx
  have hmm := hx.many [(0, .int .u32 (n2 : Int)), (1, .int .i64 (n3 : Int)), (2, .bool o)]
  have hb12 := chainG hb hmm.2 (Nat.le_refl _)
  obtain ⟨⟨y0, y1, y2⟩, _⟩ := at3 hmm.1
  simp only [setMany] at hb12 y0 y1 y2
  have HB := Lib.hid hb12
  have HY0 := Lib.hid y0
  have HY1 := Lib.hid y1
  have HY2 := Lib.hid y2
  clear hb12 hmm hb hx hp y0 y1 y2
  go_wp2_with fail
  have y0 := HY0.out
  have y1 := HY1.out
  have y2 := HY2.out
  exact bodyPost_ret (v := .tuple #[.agg #[.int .u32 (n2 : Int), .int .i64 (n3 : Int), .bool o], .int .i64 0]) (by simp [results, Try.results27, go_sem, y0, y1, y2]) rfl ⟨rfl, HB.out⟩
set_option maxRecDepth 100000 in
set_option maxHeartbeats 4000000 in
theorem readpool_bad (s : ByteArray) (hs : s.size ≤ 1099511627776) (h : ¬ okP s.data.toList) (w : World) : Calls Try.prog 27 #[.string s] w fun x w' => x = .returned (.tuple #[Pool.zero.v, .int .i64 3]) ∧ Below w.heap.size w w' := by
  obtain ⟨hx, hb⟩ := one_at w 42 Pool.zero.row
  have hsz1 : w.heap.size + 1 = (w.alloc (.cells Pool.zero.row.toArray 42)).heap.size := by simp
  generalize hW : w.alloc (.cells Pool.zero.row.toArray 42) = w1 at *
  have HW := Lib.hid hW
  clear hW
  obtain ⟨cap, w2, hcv, hr, hb2⟩ := conv_bytes s w1 hs
  have hlen : s.data.toList.length = s.size := by rw [Array.length_toList]; rfl
  have hnew := new_any _ _ cap _ w2 hr hs
  replace hx := hx.below hb2
  have hsz2 := hb2.size
  replace hb := chain hb hb2
  unfold okP rdP at h
  skip
  generalize s.data.toList = l at *
  generalize (⟨l, false⟩ : St) = s0 at *
  have hu1 := fun g w h => u_any g s0 1 w h
  have hl1 := St.u_one_lt s0
  generalize hs1 : s0.u 1 = s1 at *
  obtain ⟨n1, s1⟩ := s1
  have hu2 := fun g w h => u_any g s1 4 w h
  have hl2 := St.u_four_lt' s1
  simp only at h hu1 hu2 hl1 hl2 
  generalize hs2 : s1.u 4 = s2 at *
  obtain ⟨n2, s2⟩ := s2
  have hu3 := fun g w h => u_any g s2 1 w h
  have hl3 := St.u_one_lt s2
  simp only at h hu2 hu3 hl2 hl3 
  generalize hs3 : s2.u 1 = s3 at *
  obtain ⟨n3, s3⟩ := s3
  have hu4 := fun g w h => u_any g s3 1 w h
  have hl4 := St.u_one_lt s3
  simp only at h hu3 hu4 hl3 hl4 
  generalize hs4 : s3.u 1 = s4 at *
  obtain ⟨n4, s4⟩ := s4
  have hdn := fun g w h => done_any g s4 w h
  have hri := fun w => rightpool_any ⟨n2, (n3 : Int), decide (n4 = 1)⟩ hl2 w
  unfold RdP.p at *
  simp only at h hu4 hl4 hri 
  change ¬ (s4.done = true ∧ n1 = 80 ∧ n4 ≤ 1 ∧ Pool.right ⟨n2, (n3 : Int), decide (n4 = 1)⟩ = true) at h
  change ∀ g w h, _ at hdn
  rw [show (!s4.bad && s4.l.isEmpty) = s4.done from rfl] at hdn
  generalize s4.done = d at *
  generalize hrv : Pool.right ⟨n2, (n3 : Int), decide (n4 = 1)⟩ = rv at *
  obtain ⟨o, ho⟩ : ∃ o, decide (n4 = 1) = o := ⟨_, rfl⟩
  have ho2 : ((n4 : Int) == 1) = o := by rw [← ho, Bool.eq_iff_iff]; simp; omega
  rw [ho] at hri
  unfold Pool.v at hri
  unfold Pool.row at hri hx
  unfold Pool.zero at hx
  simp only at hri hx
  have H1 := Lib.hid hu1
  have H2 := Lib.hid hu2
  have H3 := Lib.hid hu3
  have H4 := Lib.hid hu4
  have HD := Lib.hid hdn
  have HN := Lib.hid hnew
  have HX := Lib.hid hx
  have HB := Lib.hid hb
  have HRI := Lib.hid hri
  have HO := Lib.hid ho2
  have HO' := Lib.hid ho
  have HH := Lib.hid h
  have HRV := Lib.hid hrv
  clear hu1 hu2 hu3 hu4 hdn hnew hx hb hri ho2 ho h hrv hs1 hs2 hs3 hs4 hb2 hr
  go_enter Try.func27, Try.ntmps27
  go_upto_region 1 with fail
  rw [show (w.alloc (.cells #[.int .u32 0, .int .i64 0, .bool false] 42)) = w1 from HW.out]
  go_wp2_with fail
  refine HN.out.mono ?_
  rintro x w3 ⟨g, rfl, hg, hI, hb3⟩
  have hx := HX.out.below hb3
  have hb := chain HB.out hb3
  have hne : w.heap.size ≠ g := by omega
  clear HX HB hb3 hcv
  go_wp2_with fail
  refine (H1.out _ _ hI).mono ?_
  rintro x w4 ⟨rfl, hI, hG⟩
  replace hx := hx.only hG hne
  replace hb := chainG hb hG (by omega)
  clear hG H1
  go_wp2_with fail
  refine (H2.out _ _ hI).mono ?_
  rintro x w5 ⟨rfl, hI, hG⟩
  replace hx := hx.only hG hne
  replace hb := chainG hb hG (by omega)
  clear hG H2
  go_wp2_with fail
  refine (H3.out _ _ hI).mono ?_
  rintro x w6 ⟨rfl, hI, hG⟩
  replace hx := hx.only hG hne
  replace hb := chainG hb hG (by omega)
  clear hG H3
  go_upto_region 4 with fail
  obtain ⟨hp, hb6⟩ := one_at w6 42 [.int .u32 (n2 : Int), .int .i64 (n3 : Int), .bool false]
  have hgl : g < w6.heap.size := hI.lt
  have hgp : g ≠ w6.heap.size := by omega
  have hwp : w.heap.size < w6.heap.size := hx.lt
  replace hx := hx.below hb6
  replace hI := hI.below hb6
  replace hb := chain hb hb6
  clear hb6
  generalize World.alloc _ _ = w7 at *
  generalize w6.heap.size = gp at *
  go_wp2_with fail
  refine (H4.out _ _ hI).mono ?_
  rintro x w8 ⟨rfl, hI, hG⟩
  replace hx := hx.only hG hne
  replace hp := hp.only hG hgp.symm
  replace hb := chainG hb hG (by omega)
  clear hG H4
  obtain ⟨⟨c0, c1, c2⟩, f0, f1, f2⟩ := at3 hp
  go_upto_region 6 with fail
  rw [HO.out]
  have hG := grown_set w8 gp 2 (.bool o)
  have hI' : IsRdr (w8.setCell ⟨gp, 2, none⟩ (.bool o)) g s4 := by
    obtain ⟨A, n, c, q1, q2⟩ := hI
    exact ⟨A, n, c, At.only (t := 107) (cs := [.slice A n c, .bool s4.bad]) q1 hG hgp, q2.setCell (by show g ≤ gp; omega) _⟩
  replace hx := hx.only hG (by omega)
  replace hp := hp.set 2 (.bool o)
  replace hb := chainG hb hG (by omega)
  simp only [List.set_cons_zero, List.set_cons_succ] at hp
  clear hG hI c0 c1 c2 f0 f1 f2
  generalize World.setCell _ _ _ = w9 at *
  obtain ⟨⟨c0, c1, c2⟩, _⟩ := at3 hp
  obtain ⟨⟨z0, z1, z2⟩, k0, k1, k2⟩ := at3 hx
  have hh := HH.out
  clear HH
  cases d
  · clear hh
    go_upto_region 6 with fail
    go_wp2_with fail
    refine (HD.out _ _ hI').mono ?_
    rintro x w10 ⟨rfl, rfl⟩
    have hmm := hx.many [(0, .int .u32 0), (1, .int .i64 0), (2, .bool false)]
    have hb12 := chainG hb hmm.2 (Nat.le_refl _)
    obtain ⟨⟨y0, y1, y2⟩, _⟩ := at3 hmm.1
    simp only [setMany] at hb12 y0 y1 y2
    have HB := Lib.hid hb12
    have HY0 := Lib.hid y0
    have HY1 := Lib.hid y1
    have HY2 := Lib.hid y2
    clear hb12 hmm hb hx hp y0 y1 y2
    go_wp2_with fail
    have y0 := HY0.out
    have y1 := HY1.out
    have y2 := HY2.out
    exact bodyPost_ret (v := .tuple #[.agg #[.int .u32 0, .int .i64 0, .bool false], .int .i64 3]) (by simp [results, Try.results27, go_sem, y0, y1, y2]) rfl ⟨rfl, HB.out⟩
  · go_wp2_with fail
    refine (HD.out _ _ hI').mono ?_
    rintro x w10 ⟨rfl, rfl⟩
    by_cases h80 : n1 = 80
    · subst h80
      by_cases h1 : 1 < n4
      · clear hh
        have hmm := hx.many [(0, .int .u32 0), (1, .int .i64 0), (2, .bool false)]
        have hb12 := chainG hb hmm.2 (Nat.le_refl _)
        obtain ⟨⟨y0, y1, y2⟩, _⟩ := at3 hmm.1
        simp only [setMany] at hb12 y0 y1 y2
        have HB := Lib.hid hb12
        have HY0 := Lib.hid y0
        have HY1 := Lib.hid y1
        have HY2 := Lib.hid y2
        clear hb12 hmm hb hx hp y0 y1 y2
        go_wp2_with fail
        have y0 := HY0.out
        have y1 := HY1.out
        have y2 := HY2.out
        exact bodyPost_ret (v := .tuple #[.agg #[.int .u32 0, .int .i64 0, .bool false], .int .i64 3]) (by simp [results, Try.results27, go_sem, y0, y1, y2]) rfl ⟨rfl, HB.out⟩
      · have hrf : rv = false := by
          cases rv
          · rfl
          · exact absurd (by refine ⟨?_, ?_, ?_, ?_⟩ <;> first | trivial | omega) hh
        subst hrf
        clear hh
        go_wp2_with fail
        refine (HRI.out _).mono ?_
        rintro x w11 ⟨rfl, hb11⟩
        replace hx := hx.below hb11
        replace hp := hp.below hb11
        replace hb := chain hb hb11
        clear hb11 c0 c1 c2 z0 z1 z2 k0 k1 k2 hI'
        obtain ⟨⟨c0, c1, c2⟩, _⟩ := at3 hp
        obtain ⟨⟨z0, z1, z2⟩, k0, k1, k2⟩ := at3 hx
        have hmm := hx.many [(0, .int .u32 0), (1, .int .i64 0), (2, .bool false)]
        have hb12 := chainG hb hmm.2 (Nat.le_refl _)
        obtain ⟨⟨y0, y1, y2⟩, _⟩ := at3 hmm.1
        simp only [setMany] at hb12 y0 y1 y2
        have HB := Lib.hid hb12
        have HY0 := Lib.hid y0
        have HY1 := Lib.hid y1
        have HY2 := Lib.hid y2
        clear hb12 hmm hb hx hp y0 y1 y2
        go_wp2_with fail
        have y0 := HY0.out
        have y1 := HY1.out
        have y2 := HY2.out
        exact bodyPost_ret (v := .tuple #[.agg #[.int .u32 0, .int .i64 0, .bool false], .int .i64 3]) (by simp [results, Try.results27, go_sem, y0, y1, y2]) rfl ⟨rfl, HB.out⟩
    · clear hh
      have h80' : ((n1 : Int) == 80) = false := by simp; omega
      have h80'' : ¬ (n1 : Int) = 80 := by omega
      have hmm := hx.many [(0, .int .u32 0), (1, .int .i64 0), (2, .bool false)]
      have hb12 := chainG hb hmm.2 (Nat.le_refl _)
      obtain ⟨⟨y0, y1, y2⟩, _⟩ := at3 hmm.1
      simp only [setMany] at hb12 y0 y1 y2
      have HB := Lib.hid hb12
      have HY0 := Lib.hid y0
      have HY1 := Lib.hid y1
      have HY2 := Lib.hid y2
      clear hb12 hmm hb hx hp y0 y1 y2
      go_wp2_with fail
      have y0 := HY0.out
      have y1 := HY1.out
      have y2 := HY2.out
      exact bodyPost_ret (v := .tuple #[.agg #[.int .u32 0, .int .i64 0, .bool false], .int .i64 3]) (by simp [results, Try.results27, go_sem, y0, y1, y2]) rfl ⟨rfl, HB.out⟩
end Go.Proofs.Ytcepknjcgknidaa
