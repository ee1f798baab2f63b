
/- Chapter 10: redo.ReadState. -/
import Derived.Test.YtnkjekkdndjfaaaGreatRedoB
import Derived.Test.YtnkjekkdndjfaaaGreatStPure
import Derived.Test.YtnkjekkdndjfaaaGreatKvOf
namespace Go.Proofs.YtnkjekkdndjfaaaGreat
set_option linter.unusedVariables false
set_option linter.unusedSimpArgs false
open Go.RowKit
theorem IsRdr.under {w w' : World} {g B : Nat} {s : St} (h : IsRdr w g s) (hb : Below B w w') (hg : g < B) : IsRdr w' g s := by
  obtain ⟨A, n, c, hblk, hr⟩ := h
  exact ⟨A, n, c, (hb.block g hg).trans hblk, hr.below (hb.mono (Nat.le_of_lt hg))⟩
set_option maxRecDepth 100000 in
set_option maxHeartbeats 4000000 in
theorem item10 (g : Nat) (s : St) (w : World) (h : IsRdr w g s) :
    Calls Tryz.prog 108 #[.pointer (some ⟨g, 0, none⟩)] w fun x w' => x = .returned s.item.1.val ∧ IsRdr w' g s.item.2 ∧ Mod (fun i _ => i = g) w w' := by
  have hsg := sgn_wrap (s.u 8).1 (St.u_lt s 8)
  have hu := fun w h => u_any g s 8 w h
  unfold St.item It.val
  simp only
  generalize s.u 8 = s1 at *
  obtain ⟨n1, s1⟩ := s1
  simp only at hsg hu ⊢
  have ht1 := fun w h => rtext10 g s1 w h
  generalize s1.long = s2 at *
  obtain ⟨t2, s2⟩ := s2
  simp only at ht1 ⊢
  have ht2 := fun w h => rtext10 g s2 w h
  generalize s2.long = s3 at *
  obtain ⟨t3, s3⟩ := s3
  simp only at ht2 ⊢
  obtain ⟨h2, hb0⟩ := one_at w 35 [.string ⟨#[]⟩, .string ⟨#[]⟩, .int .i64 0]
  have hgl := h.lt
  have hI1 := h.below hb0
  have hm := (Mod.refl (fun i _ => i = g) w).below hb0
  have HT1 := Lib.hid ht1
  have HT2 := Lib.hid ht2
  clear ht1 ht2 h
  go_enter Tryz.func108, Tryz.ntmps108
  go_upto_region 1 with fail
  have hs1 := hb0.size
  have hz1 := h2.lt
  generalize World.alloc w _ = w1 at *
  obtain ⟨gz, hgz⟩ : ∃ gz, w.heap.size = gz := ⟨_, rfl⟩
  rw [hgz] at h2 hgl hs1 hz1 ⊢
  have hu := hu w1 hI1
  clear hb0
  go_upto_region 2 with (((with_reducible refine (hu).mono ?_); rintro z w2 ⟨rfl, hI2, hG2⟩))
  replace h2 := h2.only hG2 (by omega)
  replace hm := hm.grown hG2 (fun i o _ _ e => by injection e with e; exact e.symm)
  have hs2 := hG2.size
  obtain ⟨h3, hb3⟩ := one_at w2 35 [.string ⟨#[]⟩, .string ⟨#[]⟩, .int .i64 (sgn n1)]
  replace h2 := h2.step hb3
  replace hI2 := hI2.below hb3
  replace hm := hm.below hb3
  clear hu hI1 hG2 hsg hb3
  generalize World.alloc w2 _ = w3 at *
  obtain ⟨gx, hgx⟩ : ∃ gx, w2.heap.size = gx := ⟨_, rfl⟩
  rw [hgx] at h3 hs2 ⊢
  have ht1 := HT1.out w3 hI2
  clear HT1
  go_upto_region 3 with (((with_reducible refine (ht1).mono ?_); rintro z w4 ⟨rfl, hI4, hG4⟩); (have h3' := h3.only hG4 (by omega)); (obtain ⟨⟨x0, x1, x2⟩, xf0, xf1, xf2⟩ := at3 h3'))
  have hS := grown_set w4 gx 0 (.string ⟨t2.toArray⟩)
  have h35 := h3'.set 0 (.string ⟨t2.toArray⟩)
  dsimp only [List.set] at h35
  replace h2 := (h2.only hG4 (by omega)).only hS (by omega)
  have hI5 := hI4.other hS (by omega)
  replace hm := (hm.grown hG4 (fun i o _ _ e => by injection e with e; exact e.symm)).grown hS (fun i o hi _ e => by injection e with e; omega)
  clear ht1 h3 h3' x0 x1 x2 xf0 xf1 xf2 hS hG4 hI4 hI2
  generalize World.setCell _ _ _ = w5 at *
  have ht2 := HT2.out w5 hI5
  clear HT2
  go_upto_region 4 with (((with_reducible refine (ht2).mono ?_); rintro z w6 ⟨rfl, hI6, hG6⟩); (have h3' := h35.only hG6 (by omega)); (obtain ⟨⟨x0, x1, x2⟩, xf0, xf1, xf2⟩ := at3 h3'))
  have hS := grown_set w6 gx 1 (.string ⟨t3.toArray⟩)
  have h37 := h3'.set 1 (.string ⟨t3.toArray⟩)
  dsimp only [List.set] at h37
  replace h2 := (h2.only hG6 (by omega)).only hS (by omega)
  have hI7 := hI6.other hS (by omega)
  replace hm := (hm.grown hG6 (fun i o _ _ e => by injection e with e; exact e.symm)).grown hS (fun i o hi _ e => by injection e with e; omega)
  clear ht2 h35 h3' x0 x1 x2 xf0 xf1 xf2 hS hG6 hI6 hI5
  generalize World.setCell _ _ _ = w7 at *
  obtain ⟨⟨x0, x1, x2⟩, xf⟩ := at3 h37
  obtain ⟨⟨z0, z1, z2⟩, zf0, zf1, zf2⟩ := at3 h2
  go_wp2_with fail
  obtain ⟨h2', hG⟩ := At.many [(0, .string ⟨t2.toArray⟩), (1, .string ⟨t3.toArray⟩), (2, .int .i64 (sgn n1))] h2
  dsimp only [setMany, setL, List.set] at h2' hG
  have hI8 := hI7.other hG (by omega)
  replace hm := hm.grown hG (fun i o hi _ e => by injection e with e; omega)
  clear x0 x1 x2 xf z0 z1 z2 zf0 zf1 zf2 hG
  generalize World.setCell _ _ _ = w8 at *
  obtain ⟨⟨z0, z1, z2⟩, _⟩ := at3 h2'
  exact bodyPost_ret (v := .agg #[.string ⟨t2.toArray⟩, .string ⟨t3.toArray⟩, .int .i64 (sgn n1)]) (by simp [results, Tryz.results108, go_sem, z0, z1, z2]) rfl ⟨rfl, hI8, hm⟩
def RdR (w w' : World) (b : List UInt8) (x : Ending) : Prop :=
  Below w.heap.size w w' ∧ (okS b = false → x = .returned (.tuple #[.pointer none, .int .i64 3])) ∧
  (okS b = true → ∃ g m, x = .returned (.tuple #[.pointer (some ⟨g, 0, none⟩), .int .i64 0]) ∧ IsSt w' g m (rdS b).l.length (rdS b).rev (rdS b).l ∧ w.heap.size ≤ m ∧ m < g)
theorem chain_mod {w a b : World} {g : Nat} (h : Below w.heap.size w a) (hm : Mod (fun i _ => i = g) a b) (hg : w.heap.size ≤ g) : Below w.heap.size w b := h.trans (hm.toBelow (fun i o hi e => by omega) h.size)
theorem St.u_four_lt' (s : St) : (s.u 4).1 < 4294967296 := St.u_four_lt s
set_option maxRecDepth 100000 in
set_option maxHeartbeats 4000000 in
theorem rdstate_any (A : Option Addr) (n c : Nat) (b : List UInt8) (w : World) (hr : RdB w w.heap.size A n c b) (hn : n ≤ 1600000) :
    Calls Tryz.prog 59 #[.slice A n c] w fun x w' => RdR w w' b x := by
  have hnew := new_any A n c b w hr (by omega)
  have hlb := hr.length
  have hlen : (rdS b).s.done = true → (rdS b).l.length ≤ 100000 := fun h => by have := rdS_len h; omega
  have hok : okS b = ((rdS b).s.done && rightL (rdS b).rev (rdS b).l) := rfl
  unfold RdR
  unfold rdS at hok hlen ⊢
  simp only at hok hlen ⊢
  generalize okS b = OK at *
  generalize (⟨b, false⟩ : St) = s0 at *
  have hu1 := fun g w h => u_any g s0 8 w h
  have hsg := sgn_wrap (s0.u 8).1 (St.u_lt s0 8)
  generalize s0.u 8 = s1 at *
  obtain ⟨m1, s1⟩ := s1
  simp only at hsg hu1 hok hlen ⊢
  have hu2 := fun g w h => u_any g s1 4 w h
  have hlt2 := St.u_four_lt' s1
  generalize s1.u 4 = s2 at *
  obtain ⟨n2, s2⟩ := s2
  simp only at hu2 hlt2 hok hlen ⊢
  have hw2 : IntKind.i64.wrap (n2 : Int) = (n2 : Int) := IntWalk.i64_in _ (by omega)
  obtain ⟨r2, hr2⟩ : ∃ r2, s2.items n2 = r2 := ⟨_, rfl⟩
  rw [hr2] at hok hlen ⊢
  obtain ⟨L, sL⟩ := r2
  simp only at hok hlen ⊢
  generalize sgn m1 = rev at *
  have HOK := Lib.hid hok
  have HLEN := Lib.hid hlen
  have HIT := Lib.hid hr2
  have HU2 := Lib.hid hu2
  clear hr hlb hok hlen hr2 hu2
  go_enter Tryz.func59, Tryz.ntmps59
  go_upto_region 2 with (((with_reducible refine (hnew).mono ?_); rintro z w1 ⟨g, rfl, hgw, hI1, hb1⟩))
  have hgl := hI1.lt
  have HU1 := hu1 g w1 hI1
  clear hnew hu1
  go_upto_region 3 with (first | (((with_reducible refine (HU1).mono ?_); rintro z w2 ⟨rfl, hI2, hG2⟩); (have HU2' := HU2.out g w2 hI2)) | (((with_reducible refine (HU2').mono ?_); rintro z w3 ⟨rfl, hI3, hG3⟩)))
  have hb3 := chainG (chainG hb1 hG2 hgw) hG3 hgw
  have hB0 : g + 1 ≤ w3.heap.size := by have := hI3.lt; omega
  clear HU1 HU2 HU2' hI1 hI2 hG2 hG3 hb1 hsg hgl
  have HB0 := Lib.hid hb3
  have HI0 := Lib.hid hI3
  obtain ⟨B, hB⟩ : ∃ B, B = g + 1 := ⟨_, rfl⟩
  have hgB : g < B := by omega
  rw [← hB] at hB0
  have HZ0 := Lib.hid hB0
  clear hb3 hI3 hB hB0
  go_wp2_with fail
  go_loopw [7, 8] (fun v i wr => ∃ (k c1 : Nat) (A1 : Option Addr) (lk : List It) (sk : St), i = .int .i64 (k : Int) ∧ v = .slice A1 k c1 ∧ k ≤ n2 ∧ OwnI wr B A1 k c1 lk ∧ IsRdr wr g sk ∧ (L, sL) = (lk ++ (sk.items (n2 - k)).1, (sk.items (n2 - k)).2) ∧ B ≤ wr.heap.size ∧ Below w.heap.size w wr) (fun _ i _ => n2 - (intOf i).toNat)
  case atStart => exact ⟨0, 0, none, [], s2, rfl, rfl, Nat.zero_le _, OwnI.nil, HI0.out, by rw [Nat.sub_zero, HIT.out]; rfl, HZ0.out, HB0.out⟩
  case round =>
    clear HIT HI0 HZ0 HB0
    obtain ⟨k, c1, A1, lk, sk, rfl, rfl, hk, hown, hI, hit, hBz, hb⟩ := hrel
    have hbad := bad_any g sk wr hI
    by_cases hlt : k < n2
    · cases hsb : sk.bad with
      | true =>
        have hz := St.items_bad hsb (n2 - k)
        rw [hsb] at hbad
        go_upto_region 5 with fail
        go_wp2_with (((with_reducible refine (hbad).mono ?_); rintro z w4 ⟨rfl, rfl⟩))
        clear hbad
        obtain ⟨rfl, rfl⟩ : lk = L ∧ sk = sL := by
          rw [hz] at hit
          simp only [List.append_nil, Prod.mk.injEq] at hit
          exact ⟨hit.1.symm, hit.2.symm⟩
        have HW := Lib.hid hown
        have HI := Lib.hid hI
        have HB := Lib.hid hb
        clear hown hI hb hit
        go_upto_region 8 with fail
        have hdn := done_any g sk wr HI.out
        cases hd : sk.done with
        | false =>
          unfold St.done at hd
          rw [hd] at hdn
          go_wp2_with (((with_reducible refine (hdn).mono ?_); rintro z w8 ⟨rfl, rfl⟩))
          exact bodyPost_ret (v := .tuple #[.pointer none, .int .i64 3]) (by simp [results, Tryz.results59, go_sem]) rfl ⟨HB.out, fun _ => rfl, fun h => by rw [HOK.out, show sk.done = false from hd] at h; cases h⟩
        | true =>
          have hll := HLEN.out hd
          unfold St.done at hd
          rw [hd] at hdn
          have HOF0 : RdI wr wr.heap.size A1 k c1 lk ∧ k ≤ 100000 := ⟨HW.out.rd, by have := HW.out.len; omega⟩
          cases hq : rightL rev lk with
          | false =>
            have HOF := of_no wr HOF0.1 HOF0.2 hq
            go_wp2_with (first | (((with_reducible refine (hdn).mono ?_); rintro z w8 ⟨rfl, rfl⟩)) | (((with_reducible refine (HOF).mono ?_); rintro z w9 ⟨rfl, hb9⟩)))
            exact bodyPost_ret (v := .tuple #[.pointer none, .int .i64 3]) (by simp [results, Tryz.results59, go_sem]) rfl ⟨chain HB.out hb9, fun _ => rfl, fun h => by rw [HOK.out, hq, Bool.and_false] at h; cases h⟩
          | true =>
            have HOF := of_yes wr HOF0.1 HOF0.2 hq
            go_wp2_with (first | (((with_reducible refine (hdn).mono ?_); rintro z w8 ⟨rfl, rfl⟩)) | (((with_reducible refine (HOF).mono ?_); rintro z w9 ⟨g5, b5, rfl, hst, hb5, hbg, hb9⟩)))
            exact bodyPost_ret (v := .tuple #[.pointer (some ⟨g5, 0, none⟩), .int .i64 0]) (by simp [results, Tryz.results59, go_sem]) rfl ⟨chain HB.out hb9, fun h => by rw [HOK.out, hq, Bool.and_true] at h; exact absurd (hd.symm.trans h) Bool.noConfusion, fun _ => ⟨g5, b5, rfl, hst, Nat.le_trans HB.out.size hb5, hbg⟩⟩
      | false =>
        obtain ⟨j, hj⟩ : ∃ j, n2 - k = j + 1 := ⟨n2 - k - 1, by omega⟩
        have hj2 : n2 - (k + 1) = j := by omega
        rw [hj, St.items_step hsb] at hit
        simp only at hit
        have hit2 : (L, sL) = ((lk ++ [sk.item.1]) ++ (sk.item.2.items (n2 - (k + 1))).1, (sk.item.2.items (n2 - (k + 1))).2) := by rw [hj2, hit]; simp
        have HIT := Lib.hid hit2
        have HITEM := item10 g sk wr hI
        rw [hsb] at hbad
        have HW := Lib.hid hown
        have HB := Lib.hid hb
        clear hit hit2 hj hj2 hsb hown hb hI
        generalize sk.item = im at *
        obtain ⟨⟨yk, yv, yr⟩, si⟩ := im
        unfold It.val at HITEM
        simp only at HITEM HIT
        go_upto_region 7 with (((with_reducible refine (hbad).mono ?_); rintro z w4 ⟨rfl, rfl⟩))
        clear hbad
        go_wp2_with (first
          | (((with_reducible refine (HITEM).mono ?_); rintro z w4 ⟨rfl, hI4, hm4⟩);
             (have HO := Lib.hid (show OwnI w4 B A1 k c1 lk from own_mod (show World.ownsRow _ _ _ _ _ _ _ from HW.out) hm4 (fun i o _ hi _ e => by omega)));
             (have HBm := Lib.hid (chain_mod HB.out hm4 hgw));
             (have hBz4 := Nat.le_trans hBz hm4.size);
             (have hbn := (one_at w4 35 [.string yk, .string yv, .int .i64 yr]).2);
             (have HN := Lib.hid (Rd.lit (w := w4) (t := 35) (n := 1) (cs := [.string yk, .string yv, .int .i64 yr]) rfl (by simp [maxLen]) (by omega : 0 < 3)));
             (have HO2 := Lib.hid (HO.out.step hbn));
             (have hI5 := hI4.below hbn);
             (have HB5 := Lib.hid (chain HBm.out hbn));
             (have hBz5 := Nat.le_trans hBz4 hbn.size))
          | (at_builtin; refine app_i rfl (.tmp 29) (.tmp 32) rfl rfl HO2.out [⟨yk, yv, yr⟩] rfl HN.out hBz5 (by omega) ?_; intro A3 c3 w6 hW6 hG6 hB6))
        have hI6 := hI5.under hB6 hgB
        have hb6 := HB5.out.trans (hB6.mono (by omega))
        have hz6 := Nat.le_trans hBz5 hB6.size
        go_roundw
        case rel => exact ⟨k + 1, c3, A3, lk ++ [⟨yk, yv, yr⟩], si, by go_num, rfl, by omega, hW6, hI6, HIT.out, hz6, hb6⟩
        case measure => simp [intOf]; omega
    · obtain rfl : k = n2 := by omega
      have hz : sk.items (k - k) = ([], sk) := by rw [Nat.sub_self]; rfl
      go_upto_region 5 with fail
      go_wp2_with fail
      clear hbad
      obtain ⟨rfl, rfl⟩ : lk = L ∧ sk = sL := by
        rw [hz] at hit
        simp only [List.append_nil, Prod.mk.injEq] at hit
        exact ⟨hit.1.symm, hit.2.symm⟩
      have HW := Lib.hid hown
      have HI := Lib.hid hI
      have HB := Lib.hid hb
      clear hown hI hb hit
      go_upto_region 8 with fail
      have hdn := done_any g sk wr HI.out
      cases hd : sk.done with
      | false =>
        unfold St.done at hd
        rw [hd] at hdn
        go_wp2_with (((with_reducible refine (hdn).mono ?_); rintro z w8 ⟨rfl, rfl⟩))
        exact bodyPost_ret (v := .tuple #[.pointer none, .int .i64 3]) (by simp [results, Tryz.results59, go_sem]) rfl ⟨HB.out, fun _ => rfl, fun h => by rw [HOK.out, show sk.done = false from hd] at h; cases h⟩
      | true =>
        have hll := HLEN.out hd
        unfold St.done at hd
        rw [hd] at hdn
        have HOF0 : RdI wr wr.heap.size A1 k c1 lk ∧ k ≤ 100000 := ⟨HW.out.rd, by have := HW.out.len; omega⟩
        cases hq : rightL rev lk with
        | false =>
          have HOF := of_no wr HOF0.1 HOF0.2 hq
          go_wp2_with (first | (((with_reducible refine (hdn).mono ?_); rintro z w8 ⟨rfl, rfl⟩)) | (((with_reducible refine (HOF).mono ?_); rintro z w9 ⟨rfl, hb9⟩)))
          exact bodyPost_ret (v := .tuple #[.pointer none, .int .i64 3]) (by simp [results, Tryz.results59, go_sem]) rfl ⟨chain HB.out hb9, fun _ => rfl, fun h => by rw [HOK.out, hq, Bool.and_false] at h; cases h⟩
        | true =>
          have HOF := of_yes wr HOF0.1 HOF0.2 hq
          go_wp2_with (first | (((with_reducible refine (hdn).mono ?_); rintro z w8 ⟨rfl, rfl⟩)) | (((with_reducible refine (HOF).mono ?_); rintro z w9 ⟨g5, b5, rfl, hst, hb5, hbg, hb9⟩)))
          exact bodyPost_ret (v := .tuple #[.pointer (some ⟨g5, 0, none⟩), .int .i64 0]) (by simp [results, Tryz.results59, go_sem]) rfl ⟨chain HB.out hb9, fun h => by rw [HOK.out, hq, Bool.and_true] at h; exact absurd (hd.symm.trans h) Bool.noConfusion, fun _ => ⟨g5, b5, rfl, hst, Nat.le_trans HB.out.size hb5, hbg⟩⟩
end Go.Proofs.YtnkjekkdndjfaaaGreat
