
/- Chapter 17: the document's Set. -/
import Derived.Test.YtcepknjcgknidaaTot17
namespace Go.Proofs.Ytcepknjcgknidaa
set_option linter.unusedVariables false
set_option linter.unusedSimpArgs false
open Go.RowKit
theorem OwnRC.lower17 {w : World} {base base' n c : Nat} {A : Option Addr} {l : List Ct} (h : OwnRC w base A n c l) (hb : base' ≤ base) : OwnRC w base' A n c l := by
  obtain ⟨h1, h2⟩ := h
  refine ⟨h1, ?_⟩
  rcases h2 with h0 | ⟨g, cap, cur, k1, k2, k3, k4⟩
  · exact .inl h0
  · exact .inr ⟨g, cap, cur, k1, Nat.le_trans hb k2, k3, k4⟩
/-- what is ahead of the loop's next one: the rest of the document's list -/
theorem setr_cons (x : Nat) (m : Int) (d : Bool) (c : Ct) (l : List Ct) : setr x m d (c :: l) = ((if !d && decide (x ≤ c.b) then [⟨x, m⟩] else []) ++ (if c.b == x then [] else [c])) ++ setr x m (d || decide (x ≤ c.b)) l := rfl
set_option maxRecDepth 100000 in
set_option maxHeartbeats 4000000 in
theorem rset17_any (A : Option Addr) (n c : Nat) (l : List Ct) (a x : Nat) (m : Int) (w : World) (hr : RdC w w.heap.size A n c l) (hn : n ≤ 4000) (hx : x = a - a % 64) (hal : a < 4294967296) (hm : 0 ≤ m ∧ m ≤ 65535) :
    Calls Try.prog 38 #[.slice A n c, .int .u32 (a : Int), .int .i64 m] w fun r w' => ∃ A2 n2 c2 e, r = .returned (.tuple #[.slice A2 n2 c2, .int .i64 e]) ∧ OwnRC w' w.heap.size A2 n2 c2 (set17 l x m) ∧ Below w.heap.size w w' := by
  have hl := RdC.len hr
  have hle := hr.le
  have hmax := hr.max
  unfold maxLen at hmax
  subst hl
  have HR := Lib.hid hr
  clear hr
  obtain ⟨hm0, hm1⟩ := hm
  have hrem : ((a : Int) - (a : Int) % 64) = (x : Int) := by omega
  have hxl : x < 4294967296 := by omega
  have HX := Lib.hid hx
  clear hx
  obtain ⟨hgx, hb⟩ := one_at w 95 [.int .u32 (x : Int), .int .i64 m]
  have HGX := Lib.hid hgx
  have HB := Lib.hid hb
  clear hgx hb
  go_enter Try.func38, Try.ntmps38
  go_upto_region 5 with fail
  generalize World.alloc _ _ = w1 at *
  have hlt1 := HGX.out.lt
  obtain ⟨z, hz⟩ : ∃ z, (m == 0) = z := ⟨_, rfl⟩
  have HS := Lib.hid (show set17 l x m = [] ++ setr x m z l by rw [List.nil_append, ← hz]; rfl)
  go_upto_region 6 with fail
  obtain ⟨B, hB⟩ : ∃ B, B = w1.heap.size := ⟨_, rfl⟩
  have hB1 : B ≤ w1.heap.size := by omega
  have hBw : w.heap.size < B := by omega
  clear hB hlt1
  go_wp2_with fail
  go_loopw [8, 10, 29] (fun v dn i wr => ∃ (k n1 c1 : Nat) (A1 : Option Addr) (d : Bool) (o : List Ct), i = .int .i64 (k : Int) ∧ dn = .bool d ∧ v = .slice A1 n1 c1 ∧ k ≤ l.length ∧ n1 ≤ k + d.toNat ∧ OwnRC wr B A1 n1 c1 o ∧ set17 l x m = o ++ setr x m d (l.drop k) ∧
    At wr w.heap.size 95 [.int .u32 (x : Int), .int .i64 m] ∧ Below w.heap.size w wr ∧ B ≤ wr.heap.size) (fun _ _ i _ => l.length - (intOf i).toNat)
  case atStart => exact ⟨0, 0, 0, none, z, [], rfl, rfl, rfl, Nat.zero_le _, by omega, OwnRC.nil, HS.out, HGX.out, HB.out, hB1⟩
  case round =>
    clear HB HS HGX
    obtain ⟨k, n1, c1, A1, d, o, rfl, rfl, rfl, hk, hn1, hown, hset, hgx, hb, hsz⟩ := hrel
    by_cases hlt : k < l.length
    · obtain ⟨g, off, e, hg, he⟩ := HR.out.elem Ct.row_length (by omega) (k := k) hlt
      subst e
      have hbc := bcell (Below.mono (B := w.heap.size) hb (Nat.le_refl _))
      have e0 := (hbc.1 _ _ hg).trans (he 0 _ rfl)
      have e1 := (hbc.1 _ _ hg).trans (he 1 _ rfl)
      rw [Nat.add_zero] at e0
      rw [← List.getElem_cons_drop hlt, setr_cons] at hset
      clear he hbc
      generalize l[k] = y at *
      obtain ⟨yb, yn⟩ := y
      have HLT := Lib.hid (show ∀ i, (Value.slice A1 n1 c1).ownBlock = some i → i < wr.heap.size from fun i hi => (hown.lt i hi).2)
      have HB := Lib.hid hb
      have HW := Lib.hid hown
      have HS := Lib.hid hset
      have HGX := Lib.hid hgx
      clear hb hown hset hgx
      go_upto_region 9 with fail
      obtain ⟨hy, hb2⟩ := one_at wr 95 [.int .u32 (yb : Int), .int .i64 yn]
      have HW := Lib.hid (HW.out.below hb2)
      have HB := Lib.hid (chain HB.out hb2)
      have HGX := Lib.hid (HGX.out.below hb2)
      have hsv := Nat.le_trans hsz hb2.size
      clear hb2 e0 e1
      generalize World.alloc _ _ = w2 at *
      generalize wr.heap.size = gy at *
      obtain ⟨⟨y0, y1⟩, _⟩ := at2 hy
      obtain ⟨⟨x0, x1⟩, _⟩ := at2 HGX.out
      have hn2 : n1 ≤ 5000 := by cases d <;> simp at hn1 <;> omega
      cases d with
      | true =>
        by_cases hyx : yb = x
        · subst hyx
          go_wp2_with fail
          go_roundw
          case rel => exact ⟨k + 1, n1, c1, A1, true, o, by go_num, rfl, rfl, by omega, by simp at hn1 ⊢; omega, HW.out, by rw [HS.out]; simp, HGX.out, HB.out, hsv⟩
          case measure => simp [intOf]; omega
        · have hyi : ((yb : Int) == (x : Int)) = false := beq_eq_false_iff_ne.mpr (by omega)
          have hyb : (yb == x) = false := beq_eq_false_iff_ne.mpr hyx
          have hbn := (one_at w2 95 [.int .u32 (yb : Int), .int .i64 yn]).2
          have hN := Rd.lit (w := w2) (t := 95) (n := 1) (cs := [.int .u32 (yb : Int), .int .i64 yn]) rfl (by simp [maxLen]) (by omega : 0 < 2)
          have hO := OwnRC.below HW.out hbn
          have hbz := hbn.size
          have HY := Lib.hid (hy.below hbn)
          have HN := Lib.hid hN
          have HO := Lib.hid hO
          have HBN := Lib.hid (hbn.mono hsv)
          clear hN hO hbn
          go_wp2_with (at_builtin; refine app_rc rfl (.tmp 51) (.tmp 53) rfl rfl HO.out [⟨yb, yn⟩] rfl HN.out (Nat.le_trans hsv hbz) (by omega) ?_; intro A3 c3 w4 hW4 hG4; (have hB4 := HBN.out.trans (below_of_app HO.out hG4 (Nat.le_trans hsv hbz))); (have hgx4 := HGX.out.under hB4 hBw); (obtain ⟨⟨x0', x1'⟩, fx⟩ := at2 hgx4))
          replace HW := Lib.hid hW4
          replace HGX := Lib.hid hgx4
          replace HB := Lib.hid (HB.out.trans (hB4.mono (by omega)))
          have hsv := Nat.le_trans hsv hB4.size
          clear hbz HN HO HBN hW4 hB4
          go_roundw
          case rel => exact ⟨k + 1, n1 + 1, c3, A3, true, _, by go_num, rfl, rfl, by omega, by simp at hn1 ⊢; omega, HW.out, by rw [HS.out]; simp [hyb], HGX.out, HB.out, hsv⟩
          case measure => simp [intOf]; omega
      | false =>
        by_cases hxy : x ≤ yb
        · have hd : decide (x ≤ yb) = true := decide_eq_true hxy
          have hxi : (x : Int) ≤ (yb : Int) := by omega
          have hbn := (one_at w2 95 [.int .u32 (x : Int), .int .i64 m]).2
          have hN := Rd.lit (w := w2) (t := 95) (n := 1) (cs := [.int .u32 (x : Int), .int .i64 m]) rfl (by simp [maxLen]) (by omega : 0 < 2)
          have hO := OwnRC.below HW.out hbn
          have hbz := hbn.size
          have HY := Lib.hid (hy.below hbn)
          have HN := Lib.hid hN
          have HO := Lib.hid hO
          have HBN := Lib.hid (hbn.mono hsv)
          clear hN hO hbn
          go_upto_region 12 with (at_builtin; refine app_rc rfl (.tmp 42) (.tmp 44) rfl rfl HO.out [⟨x, m⟩] rfl HN.out (Nat.le_trans hsv hbz) (by omega) ?_; intro A3 c3 w4 hW4 hG4; (have hB4 := HBN.out.trans (below_of_app HO.out hG4 (Nat.le_trans hsv hbz))); (have hgx4 := HGX.out.under hB4 hBw); (obtain ⟨⟨x0', x1'⟩, fx⟩ := at2 hgx4))
          replace HW := Lib.hid hW4
          replace HGX := Lib.hid hgx4
          replace HB := Lib.hid (HB.out.trans (hB4.mono (by omega)))
          have hsv := Nat.le_trans hsv hB4.size
          clear hbz HN HO HBN hW4 hB4
          have hy4 := HY.out.row (by assumption) (fun e => by have := HLT.out _ e; omega)
          have hy := hy4
          obtain ⟨⟨y0', y1'⟩, fy⟩ := at2 hy4
          clear y0 y1 x0 x1 hG4 HY
          by_cases hyx : yb = x
          · subst hyx
            go_wp2_with fail
            go_roundw
            case rel => exact ⟨k + 1, n1 + 1, c3, A3, true, _, by go_num, rfl, rfl, by omega, by simp at hn1 ⊢; omega, HW.out, by rw [HS.out]; simp, HGX.out, HB.out, hsv⟩
            case measure => simp [intOf]; omega
          · have hyi : ((yb : Int) == (x : Int)) = false := beq_eq_false_iff_ne.mpr (by omega)
            have hyb : (yb == x) = false := beq_eq_false_iff_ne.mpr hyx
            have hbn := (one_at w4 95 [.int .u32 (yb : Int), .int .i64 yn]).2
            have hN := Rd.lit (w := w4) (t := 95) (n := 1) (cs := [.int .u32 (yb : Int), .int .i64 yn]) rfl (by simp [maxLen]) (by omega : 0 < 2)
            have hO := OwnRC.below HW.out hbn
            have hbz := hbn.size
            have HY := Lib.hid (hy.below hbn)
            have HN := Lib.hid hN
            have HO := Lib.hid hO
            have HBN := Lib.hid (hbn.mono hsv)
            clear hN hO hbn
            go_wp2_with (at_builtin; refine app_rc rfl (.tmp 51) (.tmp 53) rfl rfl HO.out [⟨yb, yn⟩] rfl HN.out (Nat.le_trans hsv hbz) (by omega) ?_; intro A3 c3 w4 hW4 hG4; (have hB4 := HBN.out.trans (below_of_app HO.out hG4 (Nat.le_trans hsv hbz))); (have hgx4 := HGX.out.under hB4 hBw); (obtain ⟨⟨x0', x1'⟩, fx⟩ := at2 hgx4))
            replace HW := Lib.hid hW4
            replace HGX := Lib.hid hgx4
            replace HB := Lib.hid (HB.out.trans (hB4.mono (by omega)))
            have hsv := Nat.le_trans hsv hB4.size
            clear hbz HN HO HBN hW4 hB4
            go_roundw
            case rel => exact ⟨k + 1, n1 + 1 + 1, c3, A3, true, _, by go_num, rfl, rfl, by omega, by simp at hn1 ⊢; omega, HW.out, by rw [HS.out]; simp [hyb, hd], HGX.out, HB.out, hsv⟩
            case measure => simp [intOf]; omega
        · have hd : decide (x ≤ yb) = false := decide_eq_false hxy
          have hyi : ((yb : Int) == (x : Int)) = false := beq_eq_false_iff_ne.mpr (by omega)
          have hyb : (yb == x) = false := beq_eq_false_iff_ne.mpr (by omega)
          have hxi : ¬ ((x : Int) ≤ (yb : Int)) := by omega
          have hbn := (one_at w2 95 [.int .u32 (yb : Int), .int .i64 yn]).2
          have hN := Rd.lit (w := w2) (t := 95) (n := 1) (cs := [.int .u32 (yb : Int), .int .i64 yn]) rfl (by simp [maxLen]) (by omega : 0 < 2)
          have hO := OwnRC.below HW.out hbn
          have hbz := hbn.size
          have HY := Lib.hid (hy.below hbn)
          have HN := Lib.hid hN
          have HO := Lib.hid hO
          have HBN := Lib.hid (hbn.mono hsv)
          clear hN hO hbn
          go_wp2_with (at_builtin; refine app_rc rfl (.tmp 51) (.tmp 53) rfl rfl HO.out [⟨yb, yn⟩] rfl HN.out (Nat.le_trans hsv hbz) (by omega) ?_; intro A3 c3 w4 hW4 hG4; (have hB4 := HBN.out.trans (below_of_app HO.out hG4 (Nat.le_trans hsv hbz))); (have hgx4 := HGX.out.under hB4 hBw); (obtain ⟨⟨x0', x1'⟩, fx⟩ := at2 hgx4))
          replace HW := Lib.hid hW4
          replace HGX := Lib.hid hgx4
          replace HB := Lib.hid (HB.out.trans (hB4.mono (by omega)))
          have hsv := Nat.le_trans hsv hB4.size
          clear hbz HN HO HBN hW4 hB4
          go_roundw
          case rel => exact ⟨k + 1, n1 + 1, c3, A3, false, _, by go_num, rfl, rfl, by omega, by simp at hn1 ⊢; omega, HW.out, by rw [HS.out]; simp [hyb, hd], HGX.out, HB.out, hsv⟩
          case measure => simp [intOf]; omega
    · obtain rfl : k = l.length := by omega
      rw [List.drop_length] at hset
      have hn2 : n1 ≤ 4001 := by cases d <;> simp at hn1 <;> omega
      have HB := Lib.hid hb
      have HW := Lib.hid hown
      have HS := Lib.hid hset
      clear hb hown hset
      cases d with
      | true =>
        go_wp2_with fail
        go_ret2
        exact ⟨A1, n1, c1, 0, rfl, by rw [HS.out]; simp only [setr, if_true, List.append_nil]; exact HW.out.lower17 (by omega), HB.out⟩
      | false =>
        have hn3 : n1 ≤ 4000 := by simp at hn1; omega
        have hsv := hsz
        have HGX := Lib.hid hgx
        obtain ⟨⟨x0, x1⟩, _⟩ := at2 hgx
        have hy := hgx
        clear hgx
        have hbn := (one_at wr 95 [.int .u32 (x : Int), .int .i64 m]).2
        have hN := Rd.lit (w := wr) (t := 95) (n := 1) (cs := [.int .u32 (x : Int), .int .i64 m]) rfl (by simp [maxLen]) (by omega : 0 < 2)
        have hO := OwnRC.below HW.out hbn
        have hbz := hbn.size
        have HY := Lib.hid (hy.below hbn)
        have HN := Lib.hid hN
        have HO := Lib.hid hO
        have HBN := Lib.hid (hbn.mono hsv)
        clear hN hO hbn
        go_wp2_with (at_builtin; refine app_rc rfl (.tmp 58) (.tmp 60) rfl rfl HO.out [⟨x, m⟩] rfl HN.out (Nat.le_trans hsv hbz) (by omega) ?_; intro A3 c3 w4 hW4 hG4; (have hB4 := HBN.out.trans (below_of_app HO.out hG4 (Nat.le_trans hsv hbz))); (have hgx4 := HGX.out.under hB4 hBw); (obtain ⟨⟨x0', x1'⟩, fx⟩ := at2 hgx4))
        replace HW := Lib.hid hW4
        replace HGX := Lib.hid hgx4
        replace HB := Lib.hid (HB.out.trans (hB4.mono (by omega)))
        have hsv := Nat.le_trans hsv hB4.size
        clear hbz HN HO HBN hW4 hB4
        go_ret2
        exact ⟨A3, n1 + 1, c3, 0, rfl, by rw [HS.out]; simp only [setr, if_false, Bool.false_eq_true]; exact HW.out.lower17 (by omega), HB.out⟩
end Go.Proofs.Ytcepknjcgknidaa
