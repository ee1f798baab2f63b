
/- Chapter 17: handle.Read. -/
import Derived.Test.YtcepknjcgknidaaReadPure17
import Derived.Test.YtcepknjcgknidaaRecs
namespace Go.Proofs.Ytcepknjcgknidaa
set_option linter.unusedVariables false
set_option linter.unusedSimpArgs false
open Go.RowKit
theorem IsRdr.under {w w' : World} {g B : Nat} {s : St} (h : IsRdr w g s) (hb : Below B w w') (hg : g < B) : IsRdr w' g s := by
  obtain ⟨A, n, c, hblk, hr⟩ := h
  exact ⟨A, n, c, (hb.block g hg).trans hblk, hr.below (hb.mono (Nat.le_of_lt hg))⟩
/-- a store over a slice's cell keeps a reader -/
theorem IsRdr.setAt {w : World} {g q n c : Nat} {A : Option Addr} {t : TypeId} {s : St} (h : IsRdr w g s) (k : At w q t [.slice A n c]) (v : Value) (hne : g ≠ q) : IsRdr (w.setCell ⟨q, 0, none⟩ v) g s := by
  obtain ⟨A1, n1, c1, hblk, hr⟩ := h
  refine ⟨A1, n1, c1, (Below.heap_setCell w ⟨q, 0, none⟩ v g hne).trans hblk, hr.len, hr.le, hr.max, fun hc => ?_⟩
  obtain ⟨g', off, e, hg, hcell⟩ := hr.cells hc
  refine ⟨g', off, e, hg, fun j u hu => ?_⟩
  have h1 := hcell j u hu
  by_cases hq : g' = q
  · subst hq
    exfalso
    rw [k.cell] at h1
    obtain ⟨b, _, rfl⟩ := bys_get hu
    cases ho : off + j with
    | zero => rw [ho] at h1; simp at h1
    | succ m => rw [ho] at h1; simp at h1
  · rw [World.cell?_setCell_other w ⟨q, 0, none⟩ ⟨g', off + j, none⟩ v (by intro e; injection e with e _ _; exact hq e.symm)]
    exact h1
theorem OwnC.rdr {w w' : World} {B n c g : Nat} {A : Option Addr} {l : List Ct} (h : OwnC w B A n c l) (hG : w.grownBy w' (some g)) (hg : g < B) : OwnC w' B A n c l :=
  own_mod h (grown_mod hG) (fun i o _ hi _ e => by injection e with e; omega)
set_option maxRecDepth 100000 in
set_option maxHeartbeats 4000000 in
theorem hread_any (s : ByteArray) (w : World) (hs : s.size ≤ 100000) :
    Calls Try.prog 44 #[.string s] w fun r w' => HRes w w' (readH s.data.toList) r := by
  obtain ⟨h0, h1, hb⟩ := two_at w 62 [.slice none 0 0] 62 [.slice none 0 0]
  have hsz : ((w.alloc (.cells [.slice none 0 0].toArray 62)).alloc (.cells [.slice none 0 0].toArray 62)).heap.size = w.heap.size + 2 := by simp
  generalize hW : (w.alloc (.cells [.slice none 0 0].toArray 62)).alloc (.cells [.slice none 0 0].toArray 62) = w1 at *
  have HW := Lib.hid hW
  clear hW
  replace hsz : w.heap.size + 2 ≤ w1.heap.size := by omega
  obtain ⟨cap, w2, hcv, hr, hb2⟩ := conv_bytes s w1 (by omega)
  have hlen : s.data.toList.length = s.size := by rw [Array.length_toList]; rfl
  have hnew := new_any _ _ cap _ w2 hr (by omega)
  replace h0 := h0.below hb2
  replace h1 := h1.below hb2
  have hsz2 := hb2.size
  replace hb := chain hb hb2
  have hE : readH s.data.toList = readH s.data.toList := rfl
  conv at hE => rhs; unfold readH
  generalize hRH : readH s.data.toList = RH at *
  clear hRH
  generalize s.data.toList = l at *
  generalize (⟨l, false⟩ : St) = s0 at *
  have hu1 := fun g w h => u_any g s0 1 w h
  have hl1 := St.u_one_lt s0
  generalize hs1 : s0.u 1 = s1 at *
  obtain ⟨n1, s1⟩ := s1
  have hu2 := fun g w h => u_any g s1 2 w h
  have hl2 := St.u_lt_w s1 2 (by omega)
  simp only at hE hu1 hu2 hl1 hl2
  rw [show ((2 : Nat) : Int) = 2 from rfl] at hl2
  generalize hs2 : s1.u 2 = s2 at *
  obtain ⟨n2, s2⟩ := s2
  simp only at hE hu2 hl2
  obtain ⟨R, hR⟩ : ∃ R, rdl n2 s2 [] = R := ⟨_, rfl⟩
  rw [hR] at hE
  have HR := Lib.hid hR
  have HE := Lib.hid hE
  have H1 := Lib.hid hu1
  have H2 := Lib.hid hu2
  have HN := Lib.hid hnew
  have HX := Lib.hid h0
  have HY := Lib.hid h1
  have HB := Lib.hid hb
  clear hu1 hu2 hnew h0 h1 hb hE hR hs1 hs2 hb2 hr
  go_enter Try.func44, Try.ntmps44
  go_upto_region 2 with fail
  rw [show ((w.alloc (.cells #[.slice none 0 0] 62)).alloc (.cells #[.slice none 0 0] 62)) = w1 from HW.out]
  go_upto_region 3 with (((with_reducible refine calls_id ?_); refine HN.out.mono ?_; rintro x w3 ⟨g, rfl, hg, hI, hb3⟩))
  have h0 := HX.out.below hb3
  have h1 := HY.out.below hb3
  have hb := chain HB.out hb3
  have hgl := hI.lt
  clear HX HY HB hb3 hcv HW
  go_upto_region 4 with (((with_reducible refine calls_id ?_); refine (H1.out _ _ hI).mono ?_; rintro x w4 ⟨rfl, hI, hG⟩))
  replace h0 := h0.only hG (by omega)
  replace h1 := h1.only hG (by omega)
  replace hb := chainG hb hG (by omega)
  clear hG H1
  go_upto_region 5 with (((with_reducible refine calls_id ?_); refine (H2.out _ _ hI).mono ?_; rintro x w5 ⟨rfl, hI, hG⟩))
  replace h0 := h0.only hG (by omega)
  replace h1 := h1.only hG (by omega)
  replace hb := chainG hb hG (by omega)
  have hsz5 := hG.size
  clear hG H2
  have hgw : w.heap.size + 2 ≤ g := by omega
  have hgl5 : g < w5.heap.size := hI.lt
  obtain ⟨B, hBB⟩ : ∃ B, B = w5.heap.size := ⟨_, rfl⟩
  have hB5 : B ≤ w5.heap.size := by omega
  rw [← hBB] at hgl5
  clear hBB
  have HH0 := Lib.hid h0
  have HH1 := Lib.hid h1
  have HB := Lib.hid hb
  have HI := Lib.hid hI
  clear h0 h1 hb hI
  go_wp2_with fail
  go_loopw [7] (fun nv wr => ∃ (j k c : Nat) (A : Option Addr) (acc : List Ct) (s : St), nv = .int .u64 (j : Int) ∧ k + j ≤ 65536 ∧ rdl j s acc = R ∧ At wr w.heap.size 62 [.slice none 0 0] ∧
    At wr (w.heap.size + 1) 62 [.slice A k c] ∧ OwnC wr B A k c acc ∧ (∀ y ∈ acc, y.b < 4294967296) ∧ IsRdr wr g s ∧ Below w.heap.size w wr ∧ B ≤ wr.heap.size) (fun nv _ => (intOf nv).toNat)
  case atStart => exact ⟨n2, 0, 0, none, [], s2, rfl, by omega, HR.out, HH0.out, HH1.out, OwnC.nil, by simp, HI.out, HB.out, by omega⟩
  case round =>
    clear HH0 HH1 HI HB HR
    obtain ⟨j, k, c, A, acc, s, rfl, hjk, hR, h0, h1, hown, hfo, hI, hb, hBw⟩ := hrel
    have HBAD := Lib.hid (bad_any g s wr hI)
    by_cases hj : j = 0
    · subst hj
      obtain rfl : (acc, s) = R := hR
      simp only at HE
      obtain ⟨y0, y1⟩ := at1 h1
      obtain ⟨x0, x1⟩ := at1 h0
      have HD := Lib.hid (done_any g s wr hI)
      have hr17 := right17_any A k c acc wr hown.rd hfo
      have HR17 := Lib.hid hr17
      clear hr17
      have HO := Lib.hid hown
      have HBB := Lib.hid hb
      clear hown hb hI
      cases hdn : (!s.bad && s.l.isEmpty) with
      | false =>
        rw [hdn] at HD HE
        go_wp2_with (first | (((with_reducible refine calls_id ?_); refine HBAD.out.mono ?_; rintro x w6 ⟨rfl, rfl⟩)) | (((with_reducible refine calls_id ?_); refine HD.out.mono ?_; rintro x w6 ⟨rfl, rfl⟩)))
        obtain ⟨z0, z1⟩ := at1 (h0.set 0 (.slice none 0 0))
        have hfin : Below w.heap.size w (wr.setCell ⟨w.heap.size, 0, none⟩ (.slice none 0 0)) := (HBB.out).setCell (by simp) _
        exact bodyPost_ret (v := .tuple #[.agg #[.slice none 0 0], .int .i64 3]) (by simp [results, Try.results44, go_sem, z0]) rfl ⟨none, 0, 0, by rw [HE.out, if_neg (by simp)], by rw [HE.out, if_neg (by simp)]; exact OwnC.nil, hfin⟩
      | true =>
        rw [hdn] at HD HE
        by_cases hm : n1 = 72
        · subst hm
          cases hq : right17 acc with
          | false =>
            rw [hq] at HR17 HE
            go_wp2_with (first | (((with_reducible refine calls_id ?_); refine HBAD.out.mono ?_; rintro x w6 ⟨rfl, rfl⟩)) | (((with_reducible refine calls_id ?_); refine HD.out.mono ?_; rintro x w6 ⟨rfl, rfl⟩)) | (((with_reducible refine calls_id ?_); refine HR17.out.mono ?_; rintro x w7 ⟨rfl, hb7⟩); (have h0' := h0.below hb7); (obtain ⟨u0, u1⟩ := at1 h0')))
            obtain ⟨z0, z1⟩ := at1 (h0'.set 0 (.slice none 0 0))
            have hfin : Below w.heap.size w (w7.setCell ⟨w.heap.size, 0, none⟩ (.slice none 0 0)) := (chain HBB.out hb7).setCell (by simp) _
            exact bodyPost_ret (v := .tuple #[.agg #[.slice none 0 0], .int .i64 3]) (by simp [results, Try.results44, go_sem, z0]) rfl ⟨none, 0, 0, by rw [HE.out, if_neg (by simp)], by rw [HE.out, if_neg (by simp)]; exact OwnC.nil, hfin⟩
          | true =>
            rw [hq] at HR17 HE
            go_wp2_with (first | (((with_reducible refine calls_id ?_); refine HBAD.out.mono ?_; rintro x w6 ⟨rfl, rfl⟩)) | (((with_reducible refine calls_id ?_); refine HD.out.mono ?_; rintro x w6 ⟨rfl, rfl⟩)) | (((with_reducible refine calls_id ?_); refine HR17.out.mono ?_; rintro x w7 ⟨rfl, hb7⟩); (have h0' := h0.below hb7); (have h1' := h1.below hb7); (obtain ⟨u0, u1⟩ := at1 h0'); (obtain ⟨v0, v1⟩ := at1 h1')))
            obtain ⟨z0, z1⟩ := at1 (h0'.set 0 (.slice A k c))
            have hfin : Below w.heap.size w (w7.setCell ⟨w.heap.size, 0, none⟩ (.slice A k c)) := (chain HBB.out hb7).setCell (by simp) _
            refine bodyPost_ret (v := .tuple #[.agg #[.slice A k c], .int .i64 0]) (by simp [results, Try.results44, go_sem, z0]) rfl ⟨A, k, c, by rw [HE.out, if_pos (by simp)], ?_, hfin⟩
            rw [HE.out, if_pos (by simp)]
            exact OwnC.lower17 (ownsRow_setCell_below (HO.out.below hb7) (a := ⟨w.heap.size, 0, none⟩) (by simp; omega) (Value.slice A k c)) (by omega)
        · have hm2 : ((n1 : Int) == 72) = false := beq_eq_false_iff_ne.mpr (by omega)
          have hm3 : (n1 == 72) = false := beq_eq_false_iff_ne.mpr hm
          rw [hm3] at HE
          go_wp2_with (first | (((with_reducible refine calls_id ?_); refine HBAD.out.mono ?_; rintro x w6 ⟨rfl, rfl⟩)) | (((with_reducible refine calls_id ?_); refine HD.out.mono ?_; rintro x w6 ⟨rfl, rfl⟩)))
          obtain ⟨z0, z1⟩ := at1 (h0.set 0 (.slice none 0 0))
          have hfin : Below w.heap.size w (wr.setCell ⟨w.heap.size, 0, none⟩ (.slice none 0 0)) := (HBB.out).setCell (by simp) _
          exact bodyPost_ret (v := .tuple #[.agg #[.slice none 0 0], .int .i64 3]) (by simp [results, Try.results44, go_sem, z0]) rfl ⟨none, 0, 0, by rw [HE.out, if_neg (by simp)], by rw [HE.out, if_neg (by simp)]; exact OwnC.nil, hfin⟩
    · obtain ⟨i, rfl⟩ : ∃ i, j = i + 1 := ⟨j - 1, by omega⟩
      cases hbad : s.bad with
      | true =>
        rw [hbad] at HBAD
        rw [rdl_bad hbad] at hR
        obtain rfl : (acc, s) = R := hR
        simp only at HE
        obtain ⟨y0, y1⟩ := at1 h1
        obtain ⟨x0, x1⟩ := at1 h0
        have HD := Lib.hid (done_any g s wr hI)
        have hr17 := right17_any A k c acc wr hown.rd hfo
        have HR17 := Lib.hid hr17
        clear hr17
        have HO := Lib.hid hown
        have HBB := Lib.hid hb
        clear hown hb hI
        cases hdn : (!s.bad && s.l.isEmpty) with
        | false =>
          rw [hdn] at HD HE
          go_wp2_with (first | (((with_reducible refine calls_id ?_); refine HBAD.out.mono ?_; rintro x w6 ⟨rfl, rfl⟩)) | (((with_reducible refine calls_id ?_); refine HD.out.mono ?_; rintro x w6 ⟨rfl, rfl⟩)))
          obtain ⟨z0, z1⟩ := at1 (h0.set 0 (.slice none 0 0))
          have hfin : Below w.heap.size w (wr.setCell ⟨w.heap.size, 0, none⟩ (.slice none 0 0)) := (HBB.out).setCell (by simp) _
          exact bodyPost_ret (v := .tuple #[.agg #[.slice none 0 0], .int .i64 3]) (by simp [results, Try.results44, go_sem, z0]) rfl ⟨none, 0, 0, by rw [HE.out, if_neg (by simp)], by rw [HE.out, if_neg (by simp)]; exact OwnC.nil, hfin⟩
        | true =>
          rw [hdn] at HD HE
          by_cases hm : n1 = 72
          · subst hm
            cases hq : right17 acc with
            | false =>
              rw [hq] at HR17 HE
              go_wp2_with (first | (((with_reducible refine calls_id ?_); refine HBAD.out.mono ?_; rintro x w6 ⟨rfl, rfl⟩)) | (((with_reducible refine calls_id ?_); refine HD.out.mono ?_; rintro x w6 ⟨rfl, rfl⟩)) | (((with_reducible refine calls_id ?_); refine HR17.out.mono ?_; rintro x w7 ⟨rfl, hb7⟩); (have h0' := h0.below hb7); (obtain ⟨u0, u1⟩ := at1 h0')))
              obtain ⟨z0, z1⟩ := at1 (h0'.set 0 (.slice none 0 0))
              have hfin : Below w.heap.size w (w7.setCell ⟨w.heap.size, 0, none⟩ (.slice none 0 0)) := (chain HBB.out hb7).setCell (by simp) _
              exact bodyPost_ret (v := .tuple #[.agg #[.slice none 0 0], .int .i64 3]) (by simp [results, Try.results44, go_sem, z0]) rfl ⟨none, 0, 0, by rw [HE.out, if_neg (by simp)], by rw [HE.out, if_neg (by simp)]; exact OwnC.nil, hfin⟩
            | true =>
              rw [hq] at HR17 HE
              go_wp2_with (first | (((with_reducible refine calls_id ?_); refine HBAD.out.mono ?_; rintro x w6 ⟨rfl, rfl⟩)) | (((with_reducible refine calls_id ?_); refine HD.out.mono ?_; rintro x w6 ⟨rfl, rfl⟩)) | (((with_reducible refine calls_id ?_); refine HR17.out.mono ?_; rintro x w7 ⟨rfl, hb7⟩); (have h0' := h0.below hb7); (have h1' := h1.below hb7); (obtain ⟨u0, u1⟩ := at1 h0'); (obtain ⟨v0, v1⟩ := at1 h1')))
              obtain ⟨z0, z1⟩ := at1 (h0'.set 0 (.slice A k c))
              have hfin : Below w.heap.size w (w7.setCell ⟨w.heap.size, 0, none⟩ (.slice A k c)) := (chain HBB.out hb7).setCell (by simp) _
              refine bodyPost_ret (v := .tuple #[.agg #[.slice A k c], .int .i64 0]) (by simp [results, Try.results44, go_sem, z0]) rfl ⟨A, k, c, by rw [HE.out, if_pos (by simp)], ?_, hfin⟩
              rw [HE.out, if_pos (by simp)]
              exact OwnC.lower17 (ownsRow_setCell_below (HO.out.below hb7) (a := ⟨w.heap.size, 0, none⟩) (by simp; omega) (Value.slice A k c)) (by omega)
          · have hm2 : ((n1 : Int) == 72) = false := beq_eq_false_iff_ne.mpr (by omega)
            have hm3 : (n1 == 72) = false := beq_eq_false_iff_ne.mpr hm
            rw [hm3] at HE
            go_wp2_with (first | (((with_reducible refine calls_id ?_); refine HBAD.out.mono ?_; rintro x w6 ⟨rfl, rfl⟩)) | (((with_reducible refine calls_id ?_); refine HD.out.mono ?_; rintro x w6 ⟨rfl, rfl⟩)))
            obtain ⟨z0, z1⟩ := at1 (h0.set 0 (.slice none 0 0))
            have hfin : Below w.heap.size w (wr.setCell ⟨w.heap.size, 0, none⟩ (.slice none 0 0)) := (HBB.out).setCell (by simp) _
            exact bodyPost_ret (v := .tuple #[.agg #[.slice none 0 0], .int .i64 3]) (by simp [results, Try.results44, go_sem, z0]) rfl ⟨none, 0, 0, by rw [HE.out, if_neg (by simp)], by rw [HE.out, if_neg (by simp)]; exact OwnC.nil, hfin⟩
      | false =>
        rw [hbad] at HBAD
        rw [rdl, if_neg (by rw [hbad]; simp)] at hR
        have hu4 := fun g w h => u_any g s 4 w h
        have hl4 := St.u_lt_w s 4 (by omega)
        rw [show ((4 : Nat) : Int) = 4 from rfl] at hl4
        generalize s.u 4 = t4 at *
        obtain ⟨yb, t4⟩ := t4
        have hu5 := fun g w h => u_any g t4 2 w h
        have hl5 := St.u_lt_w t4 2 (by omega)
        rw [show ((2 : Nat) : Int) = 2 from rfl] at hl5
        simp only at hR hu4 hu5 hl4 hl5
        generalize t4.u 2 = t5 at *
        obtain ⟨z, t5⟩ := t5
        simp only at hR hu5 hl5
        have HU4 := Lib.hid (hu4 g wr hI)
        have HU5 := Lib.hid hu5
        have HR := Lib.hid hR
        have HO := Lib.hid hown
        clear hu4 hu5 hR hown hI
        obtain ⟨y0, y1⟩ := at1 h1
        go_upto_region 8 with (first | (((with_reducible refine calls_id ?_); refine HBAD.out.mono ?_; rintro x w6 ⟨rfl, rfl⟩)) | (((with_reducible refine calls_id ?_); refine HU4.out.mono ?_; rintro x w6 ⟨rfl, hI, hG⟩)))
        have hlt6 : ∀ i, (Value.slice A k c).ownBlock = some i → i < wr.heap.size := fun i hi => (HO.out.lt i hi).2
        have hs6 := hG.size
        replace h0 := h0.only hG (by omega)
        replace h1 := h1.only hG (by omega)
        have HO := Lib.hid (HO.out.rdr hG hgl5)
        replace hb := chainG hb hG (by omega)
        have hg6 := hI.lt
        obtain ⟨hy, hb2⟩ := one_at w6 96 [.int .u32 (yb : Int), .int .i64 0]
        replace h0 := h0.below hb2
        replace h1 := h1.below hb2
        have HO := Lib.hid (HO.out.below hb2)
        replace hI := hI.below hb2
        replace hb := chain hb hb2
        have hs7 := hb2.size
        obtain ⟨gy, hgy⟩ : ∃ gy, w6.heap.size = gy := ⟨_, rfl⟩
        have hgy1 : g < gy := by omega
        have hgy2 : wr.heap.size ≤ gy := by omega
        clear hb2 hG y0 y1 HU4
        rw [hgy] at hy hs7 ⊢
        clear hgy
        generalize World.alloc _ _ = w7 at *
        have HU5 := Lib.hid (HU5.out g w7 hI)
        obtain ⟨⟨y0, y1⟩, _⟩ := at2 hy
        go_upto_region 9 with (((with_reducible refine calls_id ?_); refine HU5.out.mono ?_; rintro x w8 ⟨rfl, hI, hG⟩); (have hy8 := hy.only hG (by omega)); (obtain ⟨⟨q0, q1⟩, ⟨f0, f1⟩⟩ := at2 hy8))
        replace h0 := h0.only hG (by omega)
        replace h1 := h1.only hG (by omega)
        replace hy := hy8
        have HO := Lib.hid (HO.out.rdr hG hgl5)
        replace hb := chainG hb hG (by omega)
        clear hy8 q0 q1 f0 f1
        have hs8 := hG.size
        have hS := grown_set w8 gy 1 (.int .i64 (z : Int))
        replace h0 := h0.only hS (by omega)
        replace h1 := h1.only hS (by omega)
        replace hI := hI.under (show Below gy w8 (w8.setCell ⟨gy, 1, none⟩ (.int .i64 (z : Int))) from (Below.refl gy w8).setCell (Nat.le_refl _) _) hgy1
        have HO := Lib.hid (ownsRow_setCell_other HO.out (a := ⟨gy, 1, none⟩) (fun e => by have := hlt6 _ e; simp at this; omega) (.int .i64 (z : Int)))
        replace hb : Below w.heap.size w (w8.setCell ⟨gy, 1, none⟩ (.int .i64 (z : Int))) := hb.setCell (by simp; omega) _
        replace hy := hy.set 1 (.int .i64 (z : Int))
        rw [show [Value.int .u32 (yb : Int), .int .i64 0].set 1 (.int .i64 (z : Int)) = Ct.row ⟨yb, (z : Int)⟩ from rfl] at hy
        have hs9 := hS.size
        clear hS hG y0 y1 HU5
        generalize World.setCell _ _ _ = w9 at *
        have hbn := (one_at w9 96 (Ct.row ⟨yb, (z : Int)⟩)).2
        have hN := Rd.lit (w := w9) (t := 96) (n := 1) (cs := Ct.row ⟨yb, (z : Int)⟩) rfl (by simp [maxLen]) (by omega : 0 < 2)
        have hO : OwnC (w9.alloc (.cells (Ct.row ⟨yb, (z : Int)⟩).toArray 96)) B A k c acc := OwnC.below HO.out hbn
        have hbz := hbn.size
        have h0' := h0.below hbn
        have h1' := h1.below hbn
        have hI' := hI.below hbn
        have hb' := chain hb hbn
        obtain ⟨⟨y0, y1⟩, _⟩ := at2 (show At w9 gy _ [.int .u32 (yb : Int), .int .i64 (z : Int)] from hy)
        obtain ⟨u0, u1⟩ := at1 h1
        dsimp only [Ct.row] at hN hO hbz h0' h1' hI' hb'
        have HN9 := Lib.hid hN
        have HO9 := Lib.hid hO
        have H09 := Lib.hid h0'
        have H19 := Lib.hid h1'
        have HI9 := Lib.hid hI'
        have HB9 := Lib.hid hb'
        clear hN hO h0' h1' hI' hb' hbn h0 h1 hI hb hy
        have hB9 : B ≤ (w9.alloc (.cells #[.int .u32 (yb : Int), .int .i64 (z : Int)] 96)).heap.size := by omega
        have hyb : yb < 4294967296 := by omega
        go_wp2_with (at_builtin; refine app_c rfl (.tmp 34) (.tmp 36) rfl rfl HO9.out [⟨yb, (z : Int)⟩] rfl HN9.out hB9 (by omega) ?_; intro A3 c3 w10 hW hG; (have h1a := H19.out.own HO9.out hG (by decide)); (obtain ⟨v0, v1⟩ := at1 h1a))
        have h0a := H09.out.own HO9.out hG (by decide)
        have hB10 := below_of_app HO9.out hG hB9
        have hIa := (HI9.out.under hB10 hgl5).setAt h1a (.slice A3 (k + 1) c3) (by omega)
        have hS := grown_set w10 (w.heap.size + 1) 0 (.slice A3 (k + 1) c3)
        have h0b := h0a.only hS (by omega)
        have h1b := h1a.set 0 (.slice A3 (k + 1) c3)
        have hWb : OwnC (w10.setCell ⟨w.heap.size + 1, 0, none⟩ (.slice A3 (k + 1) c3)) B A3 (k + 1) c3 (acc ++ [⟨yb, (z : Int)⟩]) := ownsRow_setCell_below hW (a := ⟨w.heap.size + 1, 0, none⟩) (by simp; omega) _
        have hbb : Below w.heap.size w (w10.setCell ⟨w.heap.size + 1, 0, none⟩ (.slice A3 (k + 1) c3)) := (HB9.out.trans (hB10.mono (by omega))).setCell (by simp) _
        have hsb : B ≤ (w10.setCell ⟨w.heap.size + 1, 0, none⟩ (.slice A3 (k + 1) c3)).heap.size := Nat.le_trans hB9 (Nat.le_trans hB10.size hS.size)
        have hfb : ∀ y ∈ acc ++ [⟨yb, (z : Int)⟩], y.b < 4294967296 := by
          intro y hy
          rcases List.mem_append.1 hy with h | h
          · exact hfo y h
          · simp at h; subst h; exact hyb
        clear h1a h0a hB10 hS hW hG v0 v1 y0 y1 u0 u1
        go_roundw
        case rel => exact ⟨i, k + 1, c3, A3, _, t5, by go_num, by omega, HR.out, h0b, h1b, hWb, hfb, hIa, hbb, hsb⟩
        case measure => simp [intOf]
end Go.Proofs.Ytcepknjcgknidaa
