
/- Chapter 17: handle.Set. -/
import Derived.Test.YtcepknjcgknidaaSetPure17
import Derived.Test.YtcepknjcgknidaaIns17
import Derived.Test.YtcepknjcgknidaaDel17
namespace Go.Proofs.Ytcepknjcgknidaa
set_option linter.unusedVariables false
set_option linter.unusedSimpArgs false
open Go.RowKit
theorem rows_set (m : Int) (x : Nat) : ∀ (l : List Ct) (k : Nat) (h : k < l.length), (l.getD k default).b = x → (l.flatMap Ct.row).set (k * 2 + 1) (.int .i64 m) = ((l.take k ++ [(⟨x, m⟩ : Ct)]) ++ l.drop (k + 1)).flatMap Ct.row
  | [], k, h, _ => by simp at h
  | y :: l, 0, h, hx => by
    simp at hx
    simp [Ct.row, hx]
  | y :: l, k + 1, h, hx => by
    have ih := rows_set m x l k (by simpa using h) (by simpa using hx)
    rw [List.flatMap_cons, show (k + 1) * 2 + 1 = (k * 2 + 1) + 2 by omega, List.take_succ_cons, List.drop_succ_cons, List.cons_append, List.cons_append, List.flatMap_cons, ← ih]
    simp [Ct.row]
def SetR (w w' : World) (l : List Ct) (x : Nat) (m : Int) (r : Ending) : Prop :=
  ∃ A2 n2 c2, r = .returned (.tuple #[.agg #[.slice A2 n2 c2], .int .i64 (if may17 l m then 0 else 1)]) ∧ OwnC w' w.heap.size A2 n2 c2 (if may17 l m then set17 l x m else []) ∧ Below w.heap.size w w'
set_option maxRecDepth 100000 in
set_option maxHeartbeats 4000000 in
theorem hset_no (A : Option Addr) (n c : Nat) (l : List Ct) (a x : Nat) (m : Int) (w : World) (hr : RdC w w.heap.size A n c l) (hf : ∀ y ∈ l, y.b < 4294967296) (hq : may17 l m = false) :
    Calls Try.prog 33 #[.agg #[.slice A n c], .int .u32 (a : Int), .int .i64 m] w fun r w' => SetR w w' l x m r := by
  obtain ⟨h0, h1, hb⟩ := two_at w 62 [.slice A n c] 62 [.slice none 0 0]
  have hma := may17_any A n c l m _ ((hr.below hb).more hb.size) hf
  rw [hq] at hma
  have HMA := Lib.hid hma
  clear hma hr hf
  go_enter Try.func33, Try.ntmps33
  go_upto_region 1 with fail
  obtain ⟨x0, x1⟩ := at1 h0
  go_upto_region 2 with (with_reducible refine HMA.out.mono ?_; rintro r w2 ⟨rfl, hb2⟩)
  replace h1 := h1.below hb2
  replace hb := chain hb hb2
  clear hb2 h0 x0 x1
  obtain ⟨y0, y1⟩ := at1 h1
  go_wp2_with fail
  have hfin : Below w.heap.size w (w2.setCell ⟨w.heap.size + 1, 0, none⟩ (.slice none 0 0)) := hb.setCell (by simp) _
  obtain ⟨z0, z1⟩ := at1 (h1.set 0 (.slice none 0 0))
  refine bodyPost_ret (v := .tuple #[.agg #[.slice none 0 0], .int .i64 1]) (by simp [results, Try.results33, go_sem, z0]) rfl ⟨none, 0, 0, by rw [hq]; rfl, ?_, hfin⟩
  rw [hq]
  exact OwnC.nil
set_option maxRecDepth 100000 in
set_option maxHeartbeats 4000000 in
theorem hset_yes (A : Option Addr) (n c : Nat) (l : List Ct) (a x : Nat) (m : Int) (w : World) (hr : RdC w w.heap.size A n c l) (hf : ∀ y ∈ l, y.b < 4294967296) (hq : may17 l m = true) (hn : n < 4096) (hx : x = a - a % 64) (hal : a < 4294967296) :
    Calls Try.prog 33 #[.agg #[.slice A n c], .int .u32 (a : Int), .int .i64 m] w fun r w' => SetR w w' l x m r := by
  have hq2 := hq
  unfold may17 at hq2
  rw [Bool.and_eq_true] at hq2
  obtain ⟨hri, hm⟩ := hq2
  have hm := of_decide_eq_true hm
  have hl := RdC.len hr
  have hfi := fun w => first17_any a hal w
  rw [← hx] at hfi
  have HFI := Lib.hid hfi
  obtain ⟨h0, h1, hb⟩ := two_at w 62 [.slice A n c] 62 [.slice none 0 0]
  have HR := Lib.hid ((hr.below hb).more hb.size)
  have hma := may17_any A n c l m _ HR.out hf
  rw [hq] at hma
  have HMA := Lib.hid hma
  have HX := Lib.hid hx
  clear hma hr hf hfi hx
  go_enter Try.func33, Try.ntmps33
  go_upto_region 1 with fail
  generalize hW1 : World.alloc (World.alloc w _) _ = w1 at *
  have hsz : w1.heap.size = w.heap.size + 2 := by rw [← hW1]; simp
  clear hW1
  obtain ⟨x0, x1⟩ := at1 h0
  go_upto_region 3 with (with_reducible refine HMA.out.mono ?_; rintro r w2 ⟨rfl, hb2⟩)
  replace h1 := h1.below hb2
  replace h0 := h0.below hb2
  have HR := Lib.hid ((HR.out.below hb2).more hb2.size)
  replace hsz : w.heap.size + 2 ≤ w2.heap.size := by have := hb2.size; omega
  replace hb := chain hb hb2
  clear hb2 x0 x1 HMA
  obtain ⟨x0, x1⟩ := at1 h0
  go_upto_region 4 with (with_reducible refine (find17_any A n c l a x _ HR.out hri (by omega) HX.out hal).mono ?_; rintro r w3 ⟨k, hk, rfl, hb3⟩)
  replace h1 := h1.below hb3
  replace h0 := h0.below hb3
  have HR := Lib.hid ((HR.out.below hb3).more hb3.size)
  replace hsz : w.heap.size + 2 ≤ w3.heap.size := by have := hb3.size; omega
  replace hb := chain hb hb3
  clear hb3 x0 x1
  obtain ⟨x0, x1⟩ := at1 h0
  go_upto_region 5 with (with_reducible refine (cclone_any A n c l _ HR.out (by omega)).mono ?_; rintro r w4 ⟨A2, c2, rfl, hown, hb4⟩)
  replace h1 := h1.below hb4
  have hown := OwnC.lower17 hown hsz
  replace hsz : w.heap.size + 2 ≤ w4.heap.size := by have := hb4.size; omega
  replace hb := chain hb hb4
  clear hb4 x0 x1 h0
  have HB := Lib.hid hb
  have H1 := Lib.hid h1
  have HO := Lib.hid hown
  have HK := Lib.hid hk
  clear hb h1 hown hk HR
  have hle := HO.out.rd.le
  have hmax := HO.out.rd.max
  unfold maxLen at hmax
  cases hq1 : hit17 l x k with
  | true =>
    obtain ⟨hkl, hkx⟩ := of_decide_eq_true hq1
    have HS := Lib.hid (set17_hit m hri HK.out hkl hkx)
    obtain ⟨g, eA, hg1, hg2⟩ := HO.out.form (by omega)
    subst eA
    have HKX := Lib.hid hkx
    clear hkx

    by_cases hm0 : m = 0
    · subst hm0
      go_upto_region 13 with (with_reducible refine (delete17_any (k := k) _ HO.out (by omega) (by omega) (by omega)).mono ?_; rintro r w9 ⟨rfl, hown9, hb9⟩)
      have H1 := Lib.hid (H1.out.under hb9 (by omega))
      have HB := Lib.hid (HB.out.trans (hb9.mono (by omega)))
      clear hb9 HO
      have hfin : Below w.heap.size w (w9.setCell ⟨w.heap.size + 1, 0, none⟩ (Value.slice (some ⟨g, 0, none⟩) (n - 1) c2)) := (HB.out).setCell (by simp) _
      obtain ⟨y0, y1⟩ := at1 H1.out
      go_wp2_with fail
      obtain ⟨z0, z1⟩ := at1 (H1.out.set 0 (Value.slice (some ⟨g, 0, none⟩) (n - 1) c2))
      refine bodyPost_ret (v := .tuple #[.agg #[(Value.slice (some ⟨g, 0, none⟩) (n - 1) c2)], .int .i64 0]) (by simp [results, Try.results33, go_sem, z0]) rfl ⟨_, _, _, by rw [hq]; rfl, ?_, hfin⟩
      rw [hq]
      have h9 := hown9.lower17 (base' := w.heap.size) (by omega)
      have e9 := HS.out
      simp only [BEq.rfl, if_true, List.append_nil] at e9
      rw [if_pos rfl, e9]
      exact ownsRow_setCell_below (OwnC.lower17 hown9 (Nat.le_refl _)) (by simp) _ |> fun h => OwnC.lower17 h (by omega)
    · have hmb : (m == 0) = false := beq_eq_false_iff_ne.mpr hm0
      obtain ⟨g', off, eA, _, he⟩ := HO.out.rd.elem Ct.row_length (by omega) (k := k) hkl
      have e1 := he 1 _ rfl
      injection eA with eA
      injection eA with eA eO _
      subst eA; subst eO
      rw [Nat.zero_add] at e1
      have f1 := HO.out.frozenAt (k * 2 + 1)
      have hkn : (k : Int) < (n : Int) := by omega
      have hown9 := HO.out.stored (k * 2 + 1) (.int .i64 m)
      have HE := Lib.hid (rows_set m x l k hkl HKX.out)
      go_upto_region 13 with fail
      generalize World.setCell _ _ _ = w9 at *
      obtain ⟨hown9, hb9⟩ := hown9
      have H1 := Lib.hid (H1.out.row hb9 (by simp; omega))
      have HB := Lib.hid (HB.out.grown hb9 (by omega) (by intro i hi; injection hi with hi; omega))
      have hwz : w.heap.size + 2 ≤ w9.heap.size := by have := hb9.size; omega
      clear hb9 HO
      have hfin : Below w.heap.size w (w9.setCell ⟨w.heap.size + 1, 0, none⟩ (Value.slice (some ⟨g, 0, none⟩) n c2)) := (HB.out).setCell (by simp) _
      obtain ⟨y0, y1⟩ := at1 H1.out
      go_wp2_with fail
      obtain ⟨z0, z1⟩ := at1 (H1.out.set 0 (Value.slice (some ⟨g, 0, none⟩) n c2))
      refine bodyPost_ret (v := .tuple #[.agg #[(Value.slice (some ⟨g, 0, none⟩) n c2)], .int .i64 0]) (by simp [results, Try.results33, go_sem, z0]) rfl ⟨_, _, _, by rw [hq]; rfl, ?_, hfin⟩
      have e9 := HS.out
      rw [hmb] at e9
      rw [hq, if_pos rfl, e9]
      rw [HE.out] at hown9
      have hown9 := ownsRow_setCell_below hown9 (a := ⟨w.heap.size + 1, 0, none⟩) (by simp) (Value.slice (some ⟨g, 0, none⟩) n c2)
      exact OwnC.lower17 hown9 (by omega)
  | false =>
    have HS := Lib.hid (set17_miss m hri HK.out hq1)
    by_cases hm0 : m = 0
    · subst hm0
      have hl9 := HO.out
      go_upto_region 13 with fail
      generalize hw9 : w4 = w9 at *
      have hfin : Below w.heap.size w (w9.setCell ⟨w.heap.size + 1, 0, none⟩ (Value.slice A2 n c2)) := (HB.out).setCell (by simp) _
      obtain ⟨y0, y1⟩ := at1 H1.out
      go_wp2_with fail
      obtain ⟨z0, z1⟩ := at1 (H1.out.set 0 (Value.slice A2 n c2))
      refine bodyPost_ret (v := .tuple #[.agg #[(Value.slice A2 n c2)], .int .i64 0]) (by simp [results, Try.results33, go_sem, z0]) rfl ⟨_, _, _, by rw [hq]; rfl, ?_, hfin⟩
      have e9 := HS.out
      simp only [BEq.rfl, if_true, List.append_nil, List.take_append_drop] at e9
      rw [hq, if_pos rfl, e9]
      exact OwnC.lower17 (ownsRow_setCell_below hl9 (a := ⟨w.heap.size + 1, 0, none⟩) (by simp) (Value.slice A2 n c2)) (by omega)
    · have hmb : (m == 0) = false := beq_eq_false_iff_ne.mpr hm0
      have hmp : 0 < m := by omega
      have hnn : ¬ ((n : Int) = 4096) := by omega
      have hlt9 : ∀ i, (Value.slice A2 n c2).ownBlock = some i → i < w4.heap.size := fun i hi => (HO.out.lt i hi).2
      obtain ⟨hv, hbv⟩ := one_at w4 96 (Ct.row ⟨x, m⟩)
      have hins := insert17_any (k := k) _ (HO.out.below hbv) hv (fun e => by have := hlt9 _ e; omega) (by have := hbv.size; omega) (by omega) (by have := HK.out.1; omega)
      have HINS := Lib.hid hins
      have HBV := Lib.hid (hbv.mono (show w.heap.size + 2 ≤ w4.heap.size by omega))
      clear hins hv hbv hlt9
      dsimp only [Ct.row] at HINS HBV
      go_upto_region 13 with (first | (with_reducible refine (HFI.out _).mono ?_; rintro r w8 ⟨rfl, rfl⟩) | (with_reducible refine HINS.out.mono ?_; rintro r w9 ⟨A3, c3, rfl, hown9, hb9⟩))
      have hb9 := HBV.out.trans hb9
      have H1 := Lib.hid (H1.out.under hb9 (by omega))
      have HB := Lib.hid (HB.out.trans (hb9.mono (by omega)))
      clear hb9 HO HBV HINS
      have hfin : Below w.heap.size w (w9.setCell ⟨w.heap.size + 1, 0, none⟩ (Value.slice A3 (n + 1) c3)) := (HB.out).setCell (by simp) _
      obtain ⟨y0, y1⟩ := at1 H1.out
      go_wp2_with fail
      obtain ⟨z0, z1⟩ := at1 (H1.out.set 0 (Value.slice A3 (n + 1) c3))
      refine bodyPost_ret (v := .tuple #[.agg #[(Value.slice A3 (n + 1) c3)], .int .i64 0]) (by simp [results, Try.results33, go_sem, z0]) rfl ⟨_, _, _, by rw [hq]; rfl, ?_, hfin⟩
      have e9 := HS.out
      rw [hmb] at e9
      rw [hq, if_pos rfl, e9]
      exact OwnC.lower17 (ownsRow_setCell_below hown9 (a := ⟨w.heap.size + 1, 0, none⟩) (by simp) (Value.slice A3 (n + 1) c3)) (by omega)
theorem hset_any (A : Option Addr) (n c : Nat) (l : List Ct) (a x : Nat) (m : Int) (w : World) (hr : RdC w w.heap.size A n c l) (hf : ∀ y ∈ l, y.b < 4294967296) (hn : n < 4096) (hx : x = a - a % 64) (hal : a < 4294967296) :
    Calls Try.prog 33 #[.agg #[.slice A n c], .int .u32 (a : Int), .int .i64 m] w fun r w' => SetR w w' l x m r := by
  cases hq : may17 l m with
  | false => exact hset_no A n c l a x m w hr hf hq
  | true => exact hset_yes A n c l a x m w hr hf hq hn hx hal
end Go.Proofs.Ytcepknjcgknidaa
