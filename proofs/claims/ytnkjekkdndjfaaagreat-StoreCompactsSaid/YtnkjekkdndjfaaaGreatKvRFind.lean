
/- Chapter 9: the document's Find, Begin, Stands, key. -/
import Derived.Test.YtnkjekkdndjfaaaGreatKvInv
namespace Go.Proofs.YtnkjekkdndjfaaaGreat
set_option linter.unusedVariables false
set_option linter.unusedSimpArgs false
open Go.RowKit
theorem rkey_any (k : ByteArray) (w : World) : Calls Tryz.prog 68 #[.string k] w fun r w' => r = .returned (.bool (keyB k)) ∧ w = w' := by
  unfold keyB
  by_cases h : 1 ≤ k.size
  · rw [decide_eq_true h]
    go_enter Tryz.func68, Tryz.ntmps68
    go_wp2_with fail
    go_ret
    exact ⟨by simp; omega, rfl⟩
  · rw [decide_eq_false h]
    go_enter Tryz.func68, Tryz.ntmps68
    go_wp2_with fail
    go_ret
    exact ⟨by simp, rfl⟩
theorem find_drop {l : List It} {k : ByteArray} {j : Nat} (h : j < l.length) : findI (l.drop j) k = if (l[j]).k = k then some l[j] else findI (l.drop (j + 1)) k := by
  rw [← List.getElem_cons_drop h]
  unfold findI
  rw [List.find?_cons]
  by_cases hk : (l[j]).k = k <;> simp [hk]
set_option maxRecDepth 100000 in
set_option maxHeartbeats 4000000 in
theorem rfind_any (A : Option Addr) (n c : Nat) (l : List It) (rev : Int) (k : ByteArray) (w : World) (hr : RdI w w.heap.size A n c l) :
    Calls Tryz.prog 66 #[.agg #[.int .i64 rev, .slice A n c], .string k] w fun r w' => r = .returned (.tuple #[(getI l k).val, .bool (findI l k).isSome]) ∧ Below w.heap.size w w' := by
  have hl := RdI.len hr
  have hmax := hr.max
  have hle := hr.le
  unfold maxLen at hmax
  subst hl
  obtain ⟨h0, h1, hb⟩ := two_at w 41 [.int .i64 rev, .slice A l.length c] 108 [.string ⟨#[]⟩, .string ⟨#[]⟩, .int .i64 0]
  have HR := Lib.hid hr
  clear hr
  go_enter Tryz.func66, Tryz.ntmps66
  go_upto_region 1 with fail
  generalize World.alloc (World.alloc w _) _ = w1 at *
  obtain ⟨⟨x0, x1⟩, xf⟩ := at2 h0
  have H1 := Lib.hid h1
  have HB0 := Lib.hid hb
  have hlt1 := h1.lt
  clear h1 hb
  go_wp2_with fail
  clear x0 x1 xf h0
  go_loopw [11] (fun i wr => ∃ j : Nat, i = .int .i64 (j : Int) ∧ j ≤ l.length ∧ findI l k = findI (l.drop j) k ∧ Below w1.heap.size w1 wr) (fun i _ => l.length - (intOf i).toNat)
  case atStart => exact ⟨0, rfl, Nat.zero_le _, rfl, Below.refl _ _⟩
  case round =>
    obtain ⟨j, rfl, hj, hfi, hb⟩ := hrel
    have h1 := H1.out.step hb
    have hz := hb.size
    by_cases hlt : j < l.length
    ·
      obtain ⟨gs, off, e, hg, he⟩ := HR.out.elem It.row_length (by omega) (k := j) hlt
      subst e
      have hbw := chain HB0.out hb
      have hbc := bcell (Below.mono (B := w.heap.size) hbw (Nat.le_refl _))
      have e0 := (hbc.1 _ _ hg).trans (he 0 _ rfl)
      have e1 := (hbc.1 _ _ hg).trans (he 1 _ rfl)
      have e2 := (hbc.1 _ _ hg).trans (he 2 _ rfl)
      rw [Nat.add_zero] at e0
      clear he hbc
      rw [find_drop hlt] at hfi
      generalize l[j] = y at *
      obtain ⟨yk, yv, yr⟩ := y
      simp only at e0 e1 e2 hfi
      have HB := Lib.hid hb
      have HFI := Lib.hid hfi
      have HH1 := Lib.hid h1
      clear hb hfi h1 hbw
      go_upto_region 4 with fail
      obtain ⟨hy, hb2⟩ := one_at wr 108 [.string yk, .string yv, .int .i64 yr]
      have HB := Lib.hid (chain HB.out hb2)
      have h1 := HH1.out.step hb2
      have hz2 := Nat.le_trans hz hb2.size
      clear hb2 e0 e1 e2
      generalize World.alloc _ _ = w2 at *
      obtain ⟨gy, hgy⟩ : ∃ gy, wr.heap.size = gy := ⟨_, rfl⟩
      rw [hgy] at hy hz ⊢
      clear hgy
      obtain ⟨⟨y0, y1, y2⟩, yf⟩ := at3 hy
      have hcmp : (yk.toList == k.toList) = decide (yk = k) := ba_beq _ _
      by_cases hk : yk = k
      · rw [decide_eq_true hk] at hcmp
        subst hk
        obtain ⟨⟨u0, u1, u2⟩, v0, v1, v2⟩ := at3 h1
        go_wp2_with fail
        obtain ⟨hm1, hG1⟩ := At.many [(0, .string yk), (1, .string yv), (2, .int .i64 yr)] h1
        have hb5 := (HB0.out.trans (HB.out.mono HB0.out.size)).trans ((Below.refl w.heap.size w2).grown hG1 (Nat.le_trans HB0.out.size hz2) (by intro i hi; injection hi with hi; omega))
        dsimp only [setMany, setL, List.set] at hm1 hb5
        clear u0 u1 u2 v0 v1 v2 y0 y1 y2 yf hG1 h1 hy
        generalize World.setCell _ _ _ = w5 at *
        obtain ⟨⟨u0, u1, u2⟩, _⟩ := at3 hm1
        have hf := HFI.out
        simp only [if_true] at hf
        exact bodyPost_ret (v := .tuple #[.agg #[.string yk, .string yv, .int .i64 yr], .bool true]) (by simp [results, Tryz.results66, go_sem, u0, u1, u2]) rfl ⟨by simp only [getI, hf]; rfl, hb5⟩
      · rw [decide_eq_false hk] at hcmp
        go_wp2_with fail
        clear y0 y1 y2 yf hy
        go_roundw
        case rel => exact ⟨j + 1, by go_num, by omega, by rw [HFI.out, if_neg hk], HB.out⟩
        case measure => simp [intOf]; omega
    · obtain rfl : j = l.length := by omega
      rw [List.drop_length] at hfi
      have HFI := Lib.hid hfi
      have HB := Lib.hid hb
      clear hb hfi
      obtain ⟨⟨u0, u1, u2⟩, v0, v1, v2⟩ := at3 h1
      go_wp2_with fail
      obtain ⟨hm1, hG1⟩ := At.many [(0, .string ⟨#[]⟩), (1, .string ⟨#[]⟩), (2, .int .i64 0)] h1
      have hb5 := (HB0.out.trans (HB.out.mono HB0.out.size)).trans ((Below.refl w.heap.size wr).grown hG1 (Nat.le_trans HB0.out.size hz) (by intro i hi; injection hi with hi; omega))
      dsimp only [setMany, setL, List.set] at hm1 hb5
      clear u0 u1 u2 v0 v1 v2 hG1 h1
      generalize World.setCell _ _ _ = w5 at *
      obtain ⟨⟨u0, u1, u2⟩, _⟩ := at3 hm1
      have hf : findI l k = none := HFI.out
      exact bodyPost_ret (v := .tuple #[.agg #[.string ⟨#[]⟩, .string ⟨#[]⟩, .int .i64 0], .bool false]) (by simp [results, Tryz.results66, go_sem, u0, u1, u2]) rfl ⟨by simp only [getI, hf]; rfl, hb5⟩
set_option maxRecDepth 100000 in
set_option maxHeartbeats 4000000 in
theorem rstands_any (A : Option Addr) (n c : Nat) (l : List It) (rev : Int) (k : ByteArray) (r : Int) (w : World) (hr : RdI w w.heap.size A n c l) :
    Calls Tryz.prog 69 #[.agg #[.int .i64 rev, .slice A n c], .string k, .int .i64 r] w fun x w' => x = .returned (.bool (stands l k r)) ∧ Below w.heap.size w w' := by
  obtain ⟨h0, hb⟩ := one_at w 41 [.int .i64 rev, .slice A n c]
  have HF := Lib.hid (rfind_any A n c l rev k _ (hr.step hb))
  unfold stands
  generalize (getI l k) = y at *
  generalize (findI l k).isSome = o at *
  obtain ⟨yk, yv, yr⟩ := y
  unfold It.val at HF
  simp only at HF ⊢
  clear hr
  go_enter Tryz.func69, Tryz.ntmps69
  go_upto_region 1 with fail
  generalize World.alloc w _ = w1 at *
  obtain ⟨⟨x0, x1⟩, xf⟩ := at2 h0
  go_upto_region 2 with (((with_reducible refine calls_id ?_); refine HF.out.mono ?_; rintro z w2 ⟨rfl, hb2⟩))
  obtain ⟨hy, hb3⟩ := one_at w2 108 [.string yk, .string yv, .int .i64 yr]
  have HB := Lib.hid (chain (chain hb hb2) hb3)
  clear hb hb2 hb3 x0 x1 xf h0
  generalize World.alloc w2 _ = w3 at *
  obtain ⟨⟨y0, y1, y2⟩, yf⟩ := at3 hy
  cases o with
  | false =>
    go_wp2_with fail
    go_ret
    exact ⟨by simp, HB.out⟩
  | true =>
    go_wp2_with fail
    go_ret
    refine ⟨?_, HB.out⟩
    by_cases hq : yr = r <;> simp [hq]
end Go.Proofs.YtnkjekkdndjfaaaGreat
