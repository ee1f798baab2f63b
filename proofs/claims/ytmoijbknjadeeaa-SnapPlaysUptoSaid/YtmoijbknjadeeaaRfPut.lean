
/- Chapter 6: the document's put, write, Arm, Read. -/
import Derived.Test.YtmoijbknjadeeaaRf
namespace Go.Proofs.Ytmoijbknjadeeaa
set_option linter.unusedVariables false
set_option linter.unusedSimpArgs false
open Go.RowKit
theorem applyF_cons (e : Fi) (d : Bool) (c : Fi) (l : List Fi) : applyF e d (c :: l) = ((if !d && kless e.k c.k then [e] else []) ++ (if c.k = e.k then [] else [c])) ++ applyF e (d || kless e.k c.k) l := rfl
theorem apply_without (e : Fi) : ∀ (d : Bool) (l : List Fi), applyF e d (withoutF l e.k) = applyF e d l
  | d, [] => rfl
  | d, c :: l => by
    unfold withoutF
    rw [List.filter_cons]
    by_cases hk : c.k = e.k
    · rw [if_neg (by simp [hk]), applyF_cons, if_pos hk, hk, kless_irrefl]
      have := apply_without e d l
      unfold withoutF at this
      rw [this]
      simp
    · rw [if_pos (by simp [hk]), applyF_cons, applyF_cons]
      have := apply_without e (d || kless e.k c.k) l
      unfold withoutF at this
      rw [this]
theorem without_ne {l : List Fi} {k : ByteArray} {x : Fi} (h : x ∈ withoutF l k) : x.k ≠ k := by
  unfold withoutF at h
  have := (List.mem_filter.1 h).2
  simpa using this
theorem without_apply (e : Fi) : ∀ l : List Fi, applyF e true l = withoutF l e.k
  | [] => rfl
  | c :: l => by
    rw [applyF_cons, Bool.true_or, without_apply e l]
    unfold withoutF
    rw [List.filter_cons]
    by_cases hk : c.k = e.k <;> simp [hk]
theorem gtr_of {a b : ByteArray} (hne : a ≠ b) : (!(Op.bytesLess a.toList b.toList || a.toList == b.toList)) = kless b a := by
  rw [ba_beq, decide_eq_false hne, Bool.or_false]
  rcases kless_tri a b with h | h | h
  · have h1 : Op.bytesLess a.toList b.toList = true := h
    rw [h1, kless_asymm h]
    rfl
  · exact absurd h hne
  · have h1 : Op.bytesLess a.toList b.toList = false := kless_asymm h
    rw [h1, h]
    rfl
section
variable {w w' : World} {g : Nat} {l : List Fi} {gone : Bool} {left : Int}
set_option maxRecDepth 100000 in
set_option maxHeartbeats 4000000 in
theorem rput_any (e : Fi) (w : World) (h : IsRf w g l gone left) (hn : l.length ≤ 1000000) :
    Calls Try.prog 80 #[.pointer (some ⟨g, 0, none⟩), .agg #[.string e.k, .string ⟨e.b.toArray⟩, .int .i64 e.s]] w fun x w' => x = .returned (.tuple #[]) ∧ IsRf w' g (applyF e false l) gone left ∧ Mod (fun i _ => i = g) w w' := by
  obtain ⟨hf, hb0⟩ := one_at w 52 [.string e.k, .string ⟨e.b.toArray⟩, .int .i64 e.s]
  have hw := apply_without e false l
  have hne := fun x (h : x ∈ withoutF l e.k) => without_ne h
  have hln : (withoutF l e.k).length ≤ 1000000 := Nat.le_trans (List.length_filter_le _ _) hn
  have hgl := h.lt
  have h1 := h.step hb0
  have HWO := fun v (h : IsRf v g l gone left) => rwithout_any e.k v h hn
  rw [← hw]
  have H0 := Lib.hid h1
  clear hw h
  generalize withoutF l e.k = q at *
  obtain ⟨ek, eb, eA, en, ec, es⟩ := e
  simp only at hf hne HWO hb0 ⊢
  go_enter Try.func80, Try.ntmps80
  go_upto_region 1 with fail
  have hs0 := hb0.size
  have hz1 := hf.lt
  generalize World.alloc w _ = w1 at *
  have HG := Lib.hid (show Below w.heap.size w w1 from hb0)
  obtain ⟨g3, hg3⟩ : ∃ g3, w.heap.size = g3 := ⟨_, rfl⟩
  have HG3 := Lib.hid hg3
  rw [hg3] at hf hz1 hgl ⊢
  clear hg3 hb0
  obtain ⟨⟨x0, x1, x2⟩, xf⟩ := at3 hf
  have HWO := HWO w1 h1
  clear h1
  go_upto_region 4 with (((with_reducible refine (HWO).mono ?_); rintro z w2 ⟨A2, c2, rfl, hown2, hb2⟩))
  have hr := hown2.rd
  have hmax := hr.max
  have hle := hr.le
  unfold maxLen at hmax
  have HR := Lib.hid hr
  have H30 := Lib.hid (hf.step hb2)
  have HB0 := Lib.hid hb2
  have hs2 := hb2.size
  clear HWO hown2 hr hb2 hf x0 x1 x2 xf
  have H20 := Lib.hid (H0.out.step HB0.out)
  have HGW := Lib.hid (chain HG.out HB0.out)
  have hg32 : g3 < w2.heap.size := Nat.lt_of_lt_of_le hz1 hs2
  clear hs2 HB0 HG H0
  go_wp2_with fail
  go_loopw [4, 5, 13] (fun v dn i wr => ∃ (k c1 : Nat) (A1 : Option Addr) (o : List Fi) (d : Bool), v = .slice A1 o.length c1 ∧ dn = .bool d ∧ i = .int .i64 (k : Int) ∧ k ≤ q.length ∧ o.length ≤ k + d.toNat ∧ applyF ⟨ek, eb, eA, en, ec, es⟩ false q = o ++ applyF ⟨ek, eb, eA, en, ec, es⟩ d (q.drop k) ∧ OwnRF wr w2.heap.size A1 o.length c1 o ∧ At wr g3 52 [.string ek, .string ⟨eb.toArray⟩, .int .i64 es] ∧ w2.heap.size ≤ wr.heap.size ∧ Below w2.heap.size w2 wr) (fun _ _ i _ => q.length - (intOf i).toNat)
  case atStart => exact ⟨0, 0, none, [], false, rfl, rfl, rfl, Nat.zero_le _, by simp, rfl, World.ownsRow_nil _ _ _ _, H30.out, Nat.le_refl _, Below.refl _ _⟩
  case round =>
    clear H30
    obtain ⟨k, c1, A1, o, d, rfl, rfl, rfl, hk, hol, hap, hown, h3, hsv, hb⟩ := hrel
    have hd1 : d.toNat ≤ 1 := by cases d <;> simp
    by_cases hlt : k < q.length
    · obtain ⟨gs, off, e, hg, he⟩ := HR.out.elem Fi.row_length (by omega) (k := k) hlt
      subst e
      have hbc := bcell (Below.mono (B := w2.heap.size) hb (Nat.le_refl _))
      have e0 := (hbc.1 _ _ hg).trans (he 0 _ rfl)
      have e1 := (hbc.1 _ _ hg).trans (he 1 _ rfl)
      have e2 := (hbc.1 _ _ hg).trans (he 2 _ rfl)
      rw [Nat.add_zero] at e0
      have hnk := hne q[k] (List.getElem_mem hlt)
      rw [List.drop_eq_getElem_cons hlt, applyF_cons, if_neg hnk] at hap
      clear he hbc
      generalize q[k] = y at *
      obtain ⟨yk, yb, yA, yn, yc, ys⟩ := y
      simp only at e0 e1 e2 hnk hap
      have hgt := gtr_of hnk
      have HLT := Lib.hid (show ∀ i, (Value.slice A1 o.length c1).ownBlock = some i → i < wr.heap.size from fun i hi => (World.ownsRow.lt (show World.ownsRow _ _ _ _ _ _ _ from hown) i hi).2)
      have HAP := Lib.hid hap
      have HO := Lib.hid hown
      have H3 := Lib.hid h3
      have HB := Lib.hid hb
      clear hap hown h3 hb hnk
      go_upto_region 6 with fail
      obtain ⟨hy, hbn⟩ := one_at wr 52 [.string yk, .string ⟨yb.toArray⟩, .int .i64 ys]
      replace HO := Lib.hid (HO.out.step hbn)
      replace H3 := Lib.hid (H3.out.step hbn)
      replace HB := Lib.hid (chain HB.out hbn)
      replace hsv := Nat.le_trans hsv hbn.size
      have H7 := Lib.hid hy
      clear hbn hy e0 e1 e2
      generalize World.alloc wr _ = w3 at *
      obtain ⟨g7, hg7⟩ : ∃ g7, wr.heap.size = g7 := ⟨_, rfl⟩
      rw [hg7] at H7 HLT ⊢
      clear hg7
      obtain ⟨⟨x0, x1, x2⟩, xf⟩ := at3 H3.out
      obtain ⟨⟨y0, y1, y2⟩, yf⟩ := at3 H7.out
      cases hdk : (!d && kless ek yk) with
      | true =>
        rw [Bool.and_eq_true] at hdk
        obtain ⟨hd0, hkl⟩ := hdk
        have hdf : d = false := by simpa using hd0
        subst hdf
        rw [hkl] at hgt
        have hap2 := HAP.out
        rw [hkl] at hap2
        simp only [Bool.not_false, Bool.and_self, if_true, Bool.or_true, List.append_assoc] at hap2
        have HAP2 := Lib.hid hap2
        clear hap2 hd0 HAP hkl
        have hn1 : o.length ≤ 1000001 := by simp at hol; omega
        have hbn := (one_at w3 52 [.string ek, .string ⟨eb.toArray⟩, .int .i64 es]).2
        have HN := Lib.hid (Rd.lit (w := w3) (t := 52) (n := 1) (cs := [.string ek, .string ⟨eb.toArray⟩, .int .i64 es]) rfl (by simp [maxLen]) (by omega : 0 < 3))
        have HO2 := Lib.hid (HO.out.step hbn)
        have HB2 := Lib.hid (chain HB.out hbn)
        have H32 := Lib.hid (H3.out.step hbn)
        have H72 := Lib.hid (H7.out.step hbn)
        have hsn := Nat.le_trans hsv hbn.size
        clear hbn
        go_upto_region 9 with (at_builtin; refine app_rf rfl (.tmp 26) (.tmp 28) rfl rfl HO2.out [⟨ek, eb, eA, en, ec, es⟩] rfl HN.out hsn (by omega) ?_; intro A3 c3 w4 hW4 hG4 hB4)
        have h34 := H32.out.under hB4 hg32
        have h74 := H72.out.row hG4 (fun e => absurd (HLT.out _ e) (by omega))
        have hb4 := HB2.out.trans hB4
        have hsv := Nat.le_trans hsn hB4.size
        replace HO := Lib.hid hW4
        replace H3 := Lib.hid h34
        replace H7 := Lib.hid h74
        replace HB := Lib.hid hb4
        clear hW4 hG4 hB4 h34 h74 hb4 HN HO2 HB2 H32 H72 hsn
        clear x0 x1 x2 xf y0 y1 y2 yf HLT hgt
        obtain ⟨⟨x0, x1, x2⟩, xf⟩ := at3 H3.out
        obtain ⟨⟨y0, y1, y2⟩, yf⟩ := at3 H7.out
        have hbn := (one_at w4 52 [.string yk, .string ⟨yb.toArray⟩, .int .i64 ys]).2
        have HN := Lib.hid (Rd.lit (w := w4) (t := 52) (n := 1) (cs := [.string yk, .string ⟨yb.toArray⟩, .int .i64 ys]) rfl (by simp [maxLen]) (by omega : 0 < 3))
        have HO2 := Lib.hid (HO.out.step hbn)
        have HB2 := Lib.hid (chain HB.out hbn)
        have H32 := Lib.hid (H3.out.step hbn)
        have hsn := Nat.le_trans hsv hbn.size
        clear hbn
        go_wp2_with (at_builtin; refine app_rf rfl (.tmp 30) (.tmp 32) rfl rfl HO2.out [⟨yk, yb, yA, yn, yc, ys⟩] rfl HN.out hsn (by omega) ?_; intro A3 c3 w5 hW5 hG5 hB5)
        have h35 := H32.out.under hB5 hg32
        have hb5 := HB2.out.trans hB5
        have hsv := Nat.le_trans hsn hB5.size
        replace HO := Lib.hid hW5
        replace H3 := Lib.hid h35
        replace HB := Lib.hid hb5
        clear hW5 hG5 hB5 h35 hb5 HN HO2 HB2 H32 hsn
        clear x0 x1 x2 xf y0 y1 y2 yf H7
        go_roundw
        case rel => exact ⟨k + 1, c3, A3, o ++ [⟨ek, eb, eA, en, ec, es⟩] ++ [⟨yk, yb, yA, yn, yc, ys⟩], true, by rw [List.length_append, List.length_append]; rfl, rfl, by go_num, by omega, by rw [List.length_append, List.length_append, List.length_singleton, List.length_singleton]; simp at hol ⊢; omega, by rw [HAP2.out]; simp, by rw [List.length_append, List.length_append]; exact HO.out, H3.out, hsv, HB.out⟩
        case measure => simp [intOf]; omega
      | false =>
        have hap2 := HAP.out
        rw [hdk] at hap2
        simp only [Bool.false_eq_true, if_false, List.nil_append] at hap2
        have hor : (d || kless ek yk) = d := by
          cases d
          · simpa using hdk
          · rfl
        rw [hor] at hap2
        have HAP2 := Lib.hid hap2
        have hn1 : o.length ≤ 1000001 := by omega
        cases d with
        | true =>
          clear hap2 HAP hdk hor hgt
          have hbn := (one_at w3 52 [.string yk, .string ⟨yb.toArray⟩, .int .i64 ys]).2
          have HN := Lib.hid (Rd.lit (w := w3) (t := 52) (n := 1) (cs := [.string yk, .string ⟨yb.toArray⟩, .int .i64 ys]) rfl (by simp [maxLen]) (by omega : 0 < 3))
          have HO2 := Lib.hid (HO.out.step hbn)
          have HB2 := Lib.hid (chain HB.out hbn)
          have H32 := Lib.hid (H3.out.step hbn)
          have hsn := Nat.le_trans hsv hbn.size
          clear hbn
          go_wp2_with (at_builtin; refine app_rf rfl (.tmp 30) (.tmp 32) rfl rfl HO2.out [⟨yk, yb, yA, yn, yc, ys⟩] rfl HN.out hsn (by omega) ?_; intro A3 c3 w5 hW5 hG5 hB5)
          have h35 := H32.out.under hB5 hg32
          have hb5 := HB2.out.trans hB5
          have hsv := Nat.le_trans hsn hB5.size
          replace HO := Lib.hid hW5
          replace H3 := Lib.hid h35
          replace HB := Lib.hid hb5
          clear hW5 hG5 hB5 h35 hb5 HN HO2 HB2 H32 hsn
          clear x0 x1 x2 xf y0 y1 y2 yf H7 HLT
          go_roundw
          case rel => exact ⟨k + 1, c3, A3, o ++ [⟨yk, yb, yA, yn, yc, ys⟩], true, by rw [List.length_append]; rfl, rfl, by go_num, by omega, by rw [List.length_append, List.length_singleton]; simp at hol ⊢; omega, by rw [HAP2.out]; simp, by rw [List.length_append]; exact HO.out, H3.out, hsv, HB.out⟩
          case measure => simp [intOf]; omega
        | false =>
          have hkf : kless ek yk = false := by simpa using hdk
          rw [hkf] at hgt
          clear hap2 HAP hdk hor hkf
          have hbn := (one_at w3 52 [.string yk, .string ⟨yb.toArray⟩, .int .i64 ys]).2
          have HN := Lib.hid (Rd.lit (w := w3) (t := 52) (n := 1) (cs := [.string yk, .string ⟨yb.toArray⟩, .int .i64 ys]) rfl (by simp [maxLen]) (by omega : 0 < 3))
          have HO2 := Lib.hid (HO.out.step hbn)
          have HB2 := Lib.hid (chain HB.out hbn)
          have H32 := Lib.hid (H3.out.step hbn)
          have hsn := Nat.le_trans hsv hbn.size
          clear hbn
          go_wp2_with (at_builtin; refine app_rf rfl (.tmp 30) (.tmp 32) rfl rfl HO2.out [⟨yk, yb, yA, yn, yc, ys⟩] rfl HN.out hsn (by omega) ?_; intro A3 c3 w5 hW5 hG5 hB5)
          have h35 := H32.out.under hB5 hg32
          have hb5 := HB2.out.trans hB5
          have hsv := Nat.le_trans hsn hB5.size
          replace HO := Lib.hid hW5
          replace H3 := Lib.hid h35
          replace HB := Lib.hid hb5
          clear hW5 hG5 hB5 h35 hb5 HN HO2 HB2 H32 hsn
          clear x0 x1 x2 xf y0 y1 y2 yf H7 HLT hgt
          go_roundw
          case rel => exact ⟨k + 1, c3, A3, o ++ [⟨yk, yb, yA, yn, yc, ys⟩], false, by rw [List.length_append]; rfl, rfl, by go_num, by omega, by rw [List.length_append, List.length_singleton]; simp at hol ⊢; omega, by rw [HAP2.out]; simp, by rw [List.length_append]; exact HO.out, H3.out, hsv, HB.out⟩
          case measure => simp [intOf]; omega
    · obtain rfl : k = q.length := by omega
      rw [List.drop_length] at hap
      have hn1 : o.length ≤ 1000001 := by omega
      have HAP := Lib.hid hap
      have HO := Lib.hid hown
      have H3 := Lib.hid h3
      have HB := Lib.hid hb
      obtain ⟨⟨x0, x1, x2⟩, xf⟩ := at3 h3
      clear hap hown h3 hb
      cases d with
      | true =>
        have hres : o = applyF ⟨ek, eb, eA, en, ec, es⟩ false q := by rw [HAP.out]; simp [applyF]
        have HRES := Lib.hid hres
        clear hres
        clear x0 x1 x2 xf
        have hI := H20.out.step (HB.out)
        obtain ⟨Ad, cd, hd, hod⟩ := hI.ex
        obtain ⟨⟨z0, z1, z2⟩, zf0, zf1, zf2⟩ := at3 hd
        obtain ⟨hat, hG⟩ := At.many [(0, .slice A1 o.length c1)] hd
        dsimp only [setMany, setL, List.set] at hat hG
        have hfin := IsRf.turn (l' := o) (A' := A1) (c' := c1) hd (own_lower (show World.ownsRow _ _ _ _ _ _ _ from HO.out) (Nat.zero_le _)) hG hat
        have HFIN := Lib.hid hfin
        have HMD := Lib.hid ((((Mod.refl (fun i _ => i = g) w).below HGW.out).below HB.out).grown hG (fun i o _ _ e => (Option.some.inj e).symm))
        clear hfin hat hI hd hod hG HO H3 HB HAP
        go_wp2_with fail
        go_end0
        exact ⟨rfl, (by rw [← HRES.out]; exact HFIN.out), HMD.out⟩
      | false =>
        have hres : o ++ [⟨ek, eb, eA, en, ec, es⟩] = applyF ⟨ek, eb, eA, en, ec, es⟩ false q := by rw [HAP.out]; simp [applyF]
        have HRES := Lib.hid hres
        clear hres
        have hbn := (one_at wr 52 [.string ek, .string ⟨eb.toArray⟩, .int .i64 es]).2
        have HN := Lib.hid (Rd.lit (w := wr) (t := 52) (n := 1) (cs := [.string ek, .string ⟨eb.toArray⟩, .int .i64 es]) rfl (by simp [maxLen]) (by omega : 0 < 3))
        have HO2 := Lib.hid (HO.out.step hbn)
        have HB2 := Lib.hid (chain HB.out hbn)
        have H32 := Lib.hid (H3.out.step hbn)
        have hsn := Nat.le_trans hsv hbn.size
        clear hbn
        go_upto_region 13 with (at_builtin; refine app_rf rfl (.tmp 37) (.tmp 39) rfl rfl HO2.out [⟨ek, eb, eA, en, ec, es⟩] rfl HN.out hsn (by omega) ?_; intro A3 c3 w5 hW5 hG5 hB5)
        have h35 := H32.out.under hB5 hg32
        have hb5 := HB2.out.trans hB5
        have hsv := Nat.le_trans hsn hB5.size
        replace HO := Lib.hid hW5
        replace H3 := Lib.hid h35
        replace HB := Lib.hid hb5
        clear hW5 hG5 hB5 h35 hb5 HN HO2 HB2 H32 hsn
        have hll : o.length + 1 = (o ++ [(⟨ek, eb, eA, en, ec, es⟩ : Fi)]).length := by rw [List.length_append]; rfl
        rw [hll] at HO
        rw [hll]
        clear hll
        generalize o ++ [(⟨ek, eb, eA, en, ec, es⟩ : Fi)] = o' at *
        clear x0 x1 x2 xf
        have hI := H20.out.step (HB.out)
        obtain ⟨Ad, cd, hd, hod⟩ := hI.ex
        obtain ⟨⟨z0, z1, z2⟩, zf0, zf1, zf2⟩ := at3 hd
        obtain ⟨hat, hG⟩ := At.many [(0, .slice A3 o'.length c3)] hd
        dsimp only [setMany, setL, List.set] at hat hG
        have hfin := IsRf.turn (l' := o') (A' := A3) (c' := c3) hd (own_lower (show World.ownsRow _ _ _ _ _ _ _ from HO.out) (Nat.zero_le _)) hG hat
        have HFIN := Lib.hid hfin
        have HMD := Lib.hid ((((Mod.refl (fun i _ => i = g) w).below HGW.out).below HB.out).grown hG (fun i o _ _ e => (Option.some.inj e).symm))
        clear hfin hat hI hd hod hG HO H3 HB HAP
        go_wp2_with fail
        go_end0
        exact ⟨rfl, (by rw [← HRES.out]; exact HFIN.out), HMD.out⟩
theorem rarm_any (n : Int) (w : World) (h : IsRf w g l gone left) :
    Calls Try.prog 45 #[.pointer (some ⟨g, 0, none⟩), .int .i64 n] w fun x w' => x = .returned (.tuple #[]) ∧ IsRf w' g l gone (if n < 0 then 0 else n) ∧ w.grownBy w' (some g) := by
  obtain ⟨A, c, h1, h2⟩ := h.ex
  obtain ⟨⟨x0, x1, x2⟩, xf0, xf1, xf2⟩ := at3 h1
  by_cases hn : n < 0
  · rw [if_pos hn]
    obtain ⟨hat, hG⟩ := At.many [(2, .int .i64 n), (2, .int .i64 0)] h1
    dsimp only [setMany, setL, List.set] at hat hG
    have HF := Lib.hid (IsRf.turn h1 h2 hG hat)
    have HG := Lib.hid hG
    clear h h1 h2 hat hG
    go_enter Try.func45, Try.ntmps45
    go_wp2_with fail
    go_end0
    exact ⟨rfl, HF.out, HG.out⟩
  · rw [if_neg hn]
    obtain ⟨hat, hG⟩ := At.many [(2, .int .i64 n)] h1
    dsimp only [setMany, setL, List.set] at hat hG
    have HF := Lib.hid (IsRf.turn h1 h2 hG hat)
    have HG := Lib.hid hG
    clear h h1 h2 hat hG
    go_enter Try.func45, Try.ntmps45
    go_wp2_with fail
    go_end0
    exact ⟨rfl, HF.out, HG.out⟩
/-- the document's write -/
structure Rw where
  how : Int
  gone : Bool
  left : Int
def rwP (gone : Bool) (left : Int) : Rw := if gone then ⟨1, true, left⟩ else if left = 0 then ⟨2, true, 0⟩ else if 0 < left then ⟨0, false, left - 1⟩ else ⟨0, false, left⟩
set_option maxRecDepth 100000 in
set_option maxHeartbeats 1000000 in
theorem rwrite_any (w : World) (h : IsRf w g l gone left) (hl : -1 ≤ left ∧ left < 9223372036854775808) :
    Calls Try.prog 79 #[.pointer (some ⟨g, 0, none⟩)] w fun x w' => x = .returned (.int .i64 (rwP gone left).how) ∧ IsRf w' g l (rwP gone left).gone (rwP gone left).left ∧ w.grownBy w' (some g) := by
  obtain ⟨A, c, h1, h2⟩ := h.ex
  obtain ⟨⟨x0, x1, x2⟩, xf0, xf1, xf2⟩ := at3 h1
  have H := Lib.hid h
  unfold rwP
  cases gone with
  | true =>
    clear h h1 h2
    go_enter Try.func79, Try.ntmps79
    go_wp2_with fail
    go_ret
    exact ⟨rfl, H.out, World.grownBy.refl _ _⟩
  | false =>
    by_cases h0 : left = 0
    · subst h0
      obtain ⟨hat, hG⟩ := At.many [(1, .bool true)] h1
      dsimp only [setMany, setL, List.set] at hat hG
      have HF := Lib.hid (IsRf.turn h1 h2 hG hat)
      have HG := Lib.hid hG
      clear h h1 h2 hat hG
      go_enter Try.func79, Try.ntmps79
      go_wp2_with fail
      go_ret
      exact ⟨rfl, HF.out, HG.out⟩
    · have hb0 : (left == 0) = false := beq_eq_false_iff_ne.mpr h0
      by_cases h2p : 0 < left
      · have hd : decide (0 < left) = true := decide_eq_true h2p
        have hw : IntKind.i64.wrap (left - 1) = left - 1 := IntWalk.i64_in _ (by omega)
        obtain ⟨hat, hG⟩ := At.many [(2, .int .i64 (left - 1))] h1
        dsimp only [setMany, setL, List.set] at hat hG
        have HF := Lib.hid (IsRf.turn h1 h2 hG hat)
        have HG := Lib.hid hG
        clear h h1 h2 hat hG
        go_enter Try.func79, Try.ntmps79
        go_wp2_with fail
        go_ret
        exact ⟨by simp [h0, h2p], by simpa [h0, h2p] using HF.out, HG.out⟩
      · have hd : decide (0 < left) = false := decide_eq_false h2p
        clear h h1 h2
        go_enter Try.func79, Try.ntmps79
        go_wp2_with fail
        go_ret
        exact ⟨by simp [h0, h2p], by simpa [h0, h2p] using H.out, World.grownBy.refl _ _⟩
set_option maxRecDepth 100000 in
set_option maxHeartbeats 1000000 in
theorem rread_any (k : ByteArray) (w : World) (h : IsRf w g l gone left) :
    Calls Try.prog 24 #[.pointer (some ⟨g, 0, none⟩), .string k] w fun x w' => x = .returned (.tuple #[.string ⟨(rdBytes l gone k).toArray⟩, .int .i64 (rdCode l gone k)]) ∧ Below w.heap.size w w' := by
  have HF := rFind_any k w h
  unfold foundV at HF
  unfold rdBytes rdCode
  generalize getF l k = y at *
  obtain ⟨yk, yb, yA, yn, yc, ys⟩ := y
  simp only at HF ⊢
  cases hf : (findF l k).isSome with
  | false =>
    rw [hf] at HF
    go_enter Try.func24, Try.ntmps24
    go_upto_region 2 with (((with_reducible refine (HF).mono ?_); rintro z w1 ⟨rfl, hb1⟩))
    obtain ⟨h6, hb2⟩ := one_at w1 52 [.string yk, .string ⟨yb.toArray⟩, .int .i64 ys]
    have HB := Lib.hid (chain hb1 hb2)
    clear HF hb1 hb2
    go_wp2_with fail
    exact bodyPost_ret (v := .tuple #[.string ⟨#[]⟩, .int .i64 6]) (by simp [results, Try.results24, go_sem]) rfl ⟨rfl, HB.out⟩
  | true =>
    rw [hf] at HF
    go_enter Try.func24, Try.ntmps24
    go_upto_region 2 with (((with_reducible refine (HF).mono ?_); rintro z w1 ⟨rfl, hb1⟩))
    obtain ⟨h6, hb2⟩ := one_at w1 52 [.string yk, .string ⟨yb.toArray⟩, .int .i64 ys]
    have HB := Lib.hid (chain hb1 hb2)
    have h := (h.step hb1).step hb2
    clear HF hb1 hb2
    generalize World.alloc w1 _ = w2 at *
    generalize w1.heap.size = g6 at *
    obtain ⟨A, c, h1, h2⟩ := h.ex
    obtain ⟨⟨x0, x1, x2⟩, xf⟩ := at3 h1
    obtain ⟨⟨y0, y1, y2⟩, yf⟩ := at3 h6
    clear h h1 h2
    cases gone with
    | true =>
      go_wp2_with fail
      exact bodyPost_ret (v := .tuple #[.string ⟨#[]⟩, .int .i64 12]) (by simp [results, Try.results24, go_sem]) rfl ⟨rfl, HB.out⟩
    | false =>
      go_wp2_with fail
      exact bodyPost_ret (v := .tuple #[.string ⟨yb.toArray⟩, .int .i64 0]) (by simp [results, Try.results24, go_sem]) rfl ⟨rfl, HB.out⟩
end
end Go.Proofs.Ytmoijbknjadeeaa
