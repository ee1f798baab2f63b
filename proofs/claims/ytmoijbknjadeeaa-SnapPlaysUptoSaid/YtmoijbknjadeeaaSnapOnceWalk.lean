
/- The law SnapOnce: what was saved ahead is loaded, or what is saved now. -/
import Derived.Test.YtmoijbknjadeeaaSnapAwake
namespace Go.Proofs.Ytmoijbknjadeeaa
set_option linter.unusedVariables false
set_option linter.unusedSimpArgs false
open Go.RowKit
theorem cut08 (A : Option Addr) (n c : Nat) (B : Nat) (l : List UInt8) (w : World) (hr : RdB w B A n c l) :
    Calls Try.prog 42 #[.slice A n c] w fun e w' => e = .returned (.slice A (l.take 60).length c) ∧ w = w' := by
  obtain rfl : l.length = n := hr.length
  have hle := hr.le
  by_cases h : l.length ≤ 60
  · have e1 : (l.take 60).length = l.length := by simp; omega
    rw [e1]
    clear e1
    go_enter Try.func42, Try.ntmps42
    go_wp2
    go_ret
    exact ⟨rfl, rfl⟩
  · have e1 : (l.take 60).length = 60 := by simp; omega
    rw [e1]
    clear e1
    go_enter Try.func42, Try.ntmps42
    go_wp2
    go_ret
    exact ⟨rfl, rfl⟩
theorem RdB.take08 {w : World} {B n c : Nat} {A : Option Addr} {l : List UInt8} (h : RdB w B A n c l) (k : Nat) : RdB w B A (l.take k).length c (l.take k) := by
  have hl := h.length
  have hle := h.le
  have hq : (l.take k).length ≤ n := by rw [List.length_take]; omega
  have h2 := RdB.take h (k := (l.take k).length) (c' := c) hq (by omega) (Nat.le_refl _)
  have e : l.take (l.take k).length = l.take k := by
    rw [List.length_take]
    by_cases hk : k ≤ l.length
    · rw [Nat.min_eq_left hk]
    · rw [Nat.min_eq_right (by omega), List.take_length, List.take_of_length_le (by omega)]
  rw [e] at h2
  exact h2
/-- the disk has a under the name, all of it sure -/
structure HasS (d : PD) (M K : Nat) (a : List UInt8) : Prop where
  ok : d.Ok M K
  lost : d.lost = false
  has : findF d.fs sN = some ⟨sN, slL a, none, 0, 0, ((slL a).length : Int)⟩
theorem HasS.crash {d : PD} {M K : Nat} {a : List UInt8} (ho : d.Ok M K) (h : findF d.fs sN = some ⟨sN, slL a, none, 0, 0, ((slL a).length : Int)⟩) (ks : List Nat) : HasS (d.crash ks) M K a :=
  ⟨ok_crash ho ks, rfl, crash_sure h rfl (by simp only; omega) rfl⟩
/-- armed, saved, and crashed -/
theorem HasS.next {d : PD} {M K : Nat} {a b : List UInt8} (h : HasS d M K a) (n : Int) (hn : n < 9223372036854775808) (ks : List Nat) : ∃ o, svO (d.arm n) (spF sN) sN b = o ∧ ((d.arm n).out o).Ok (M + (b.length + 4)) (K + 1) ∧
    ((o.code = 0 ∧ 3 ≤ (if n < 0 then 0 else n) ∧ HasS (((d.arm n).out o).crash ks) (M + (b.length + 4)) (K + 1) b) ∨ (o.code = 12 ∧ HasS (((d.arm n).out o).crash ks) (M + (b.length + 4)) (K + 1) a)) := by
  have hok := ok_arm h.ok n hn
  have h1 := sv_two (b := b) (d := d.arm n) h.lost hok sN_lo sN_hi
  have h2 := sv_ok (b := b) hok sN_sp sN_mx
  rw [slL_len] at h2
  refine ⟨_, rfl, h2, ?_⟩
  rcases h1 with ⟨h3, _, h4, h5⟩ | ⟨h3, _, h4⟩
  · exact .inl ⟨h3, h5 rfl, HasS.crash h2 h4 ks⟩
  · exact .inr ⟨h3, HasS.crash h2 (h4.trans h.has) ks⟩
set_option maxRecDepth 100000 in
set_option maxHeartbeats 4000000 in
theorem snapOnce_walk {Aa : Option Addr} {na ca : Nat} {a0 : List UInt8} {Ab : Option Addr} {nb cb : Nat} {b0 : List UInt8} {q : Nat} (hq : q < 256) {Ak : Option Addr} {nk ck : Nat} {ks : List Nat} {tw : Bool} (w : World) (ha : RdB w w.heap.size Aa na ca a0) (hb : RdB w w.heap.size Ab nb cb b0) (hk : RdK w w.heap.size Ak nk ck ks) (hks : ∀ x ∈ ks, x < 65536) :
    Calls Try.prog 12 #[.slice Aa na ca, .slice Ab nb cb, .int .u8 (q : Int), .slice Ak nk ck, .bool tw] w fun x w' => x = .returned (.bool true) ∧ Below w.heap.size w w' := by
  have HCA := cut08 Aa na ca _ a0 w ha
  have HCB := cut08 Ab nb cb _ b0 w hb
  have ha2 := ha.take08 60
  have hb2 := hb.take08 60
  have ha60 : (a0.take 60).length ≤ 60 := by rw [List.length_take]; omega
  have hb60 : (b0.take 60).length ≤ 60 := by rw [List.length_take]; omega
  generalize a0.take 60 = a at *
  generalize b0.take 60 = b at *
  have HRA := Lib.hid ha2
  have HRB := Lib.hid hb2
  have HK := Lib.hid hk
  have HKS := Lib.hid hks
  have hwq : IntKind.i64.wrap (q : Int) = (q : Int) := IntWalk.i64_in _ (by omega)
  clear ha hb ha2 hb2 hk hks
  go_enter Try.func12, Try.ntmps12
  go_upto_region 3 with (first | (((with_reducible refine (HCA).mono ?_); rintro z v ⟨rfl, rfl⟩)) | (((with_reducible refine (HCB).mono ?_); rintro z v ⟨rfl, rfl⟩)) | (((with_reducible refine ((pd_new _)).mono ?_); rintro z w1 ⟨gd, bd, rfl, hd, hwb, hbg, hb⟩)))
  clear HCA HCB
  have HA := save_any (P := Aa) (n := a.length) (pc := ca) (b := a) sN_lo sN_hi w1 hd PD.Ok.new (by omega) (by omega) (by omega) ((HRA.out.below hb).more hb.size) (by omega)
  obtain ⟨hc1, hl1, hf1, _⟩ := (sv_two (b := a) (d := PD.new) rfl PD.Ok.new sN_lo sN_hi).resolve_right (fun h => by have := h.2.1; cases this)
  have hok1 := sv_ok (b := a) PD.Ok.new sN_sp sN_mx
  rw [slL_len] at hok1
  obtain ⟨o1, ho1⟩ : ∃ o, svO PD.new (spF sN) sN a = o := ⟨_, rfl⟩
  rw [ho1] at HA hc1 hl1 hf1 hok1
  unfold SV at HA
  rw [hc1] at HA
  have hs : HasS (PD.new.out o1) (0 + (a.length + 4)) (0 + 1) a := ⟨hok1, hl1, hf1⟩
  obtain ⟨d1, hd1⟩ : ∃ d1, PD.new.out o1 = d1 := ⟨_, rfl⟩
  rw [hd1] at HA hs
  clear hc1 hl1 hf1 hok1 ho1 hd hd1
  go_upto_region 5 with (((with_reducible refine (HA).mono ?_); rintro z w2 ⟨rfl, hm2, hd⟩))
  have hB : Below w.heap.size w w2 := hb.trans (mod2s hm2 (by omega) hwb hb.size)
  clear HA hm2 hb
  cases tw with
  | false =>
    go_upto_region 9 with fail
    obtain ⟨o, ho, hok, hcase⟩ := hs.next (b := b) ((q : Int) % 6) (by omega) ks
    have HAR := pd_arm ((q : Int) % 6) (by omega) w2 hd
    go_upto_region 10 with (((with_reducible refine (HAR).mono ?_); rintro z w11 ⟨rfl, hm11, hd11⟩))
    have hB11 := hB.trans (mod2s hm11 (by omega) hwb hB.size)
    have HSV := save_any (P := Ab) (n := b.length) (pc := cb) (b := b) sN_lo sN_hi w11 hd11 (ok_arm hs.ok ((q : Int) % 6) (by omega)) (by omega) (by omega) (by omega) ((HRB.out.below hB11).more hB11.size) (by omega)
    rw [ho] at HSV
    unfold SV at HSV
    clear HAR hm11 hd hB
    rcases hcase with ⟨hc, _, hs⟩ | ⟨hc, hs⟩
    ·
      rw [hc] at HSV
      go_upto_region 11 with (((with_reducible refine (HSV).mono ?_); rintro z w12 ⟨rfl, hm12, hd12⟩))
      have hB12 := hB11.trans (mod2s hm12 (by omega) hwb hB11.size)
      have HCR := pd_crash Ak nk ck ks w12 hd12 hok (by omega) (by omega) (by omega) (fun v hv => by
        have hbv := hB12.trans ((hv.mono (N := fun i _ => i = bd) (M := fun i _ => i = gd ∨ i = bd) fun i o _ _ e => .inr e).toBelow (B := w.heap.size) (fun i o hi e => by rcases e with e | e <;> omega) hB12.size)
        exact Rd.more (Rd.below HK.out hbv) hbv.size) HKS.out
      clear HSV hm12 hd11 hB11
      go_upto_region 12 with (((with_reducible refine (HCR).mono ?_); rintro z w13 ⟨rfl, hm13, hd⟩))
      have hB := hB12.trans (mod2s hm13 (by omega) hwb hB12.size)
      clear HCR hm13 hd12 hB12
      by_cases hab : b = a
      ·
        have hq1 : (b == a) = true := by simpa using hab
        have hq2 : (a == b) = true := by simpa using hab.symm
        clear hab
        obtain ⟨e1, e2⟩ := ld_sure hs.lost hs.has
        have HLD := load_any sN_mx w13 hd hs.ok (by omega)
        rw [e1, e2] at HLD
        clear e1 e2
        go_upto_region 13 with (((with_reducible refine (HLD).mono ?_); rintro z w14 ⟨A4, n4, c4, rfl, hrd4, hb14⟩))
        have hB14 := hB.trans (hb14.mono hB.size)
        have hcv := conv_str hrd4
        have hcva := conv_str ((HRA.out.below hB14).more hB14.size)
        have hcvb := conv_str ((HRB.out.below hB14).more hB14.size)
        have HBB := Lib.hid hB14
        clear HLD hb14 hd hB hB14 hrd4 hs hok ho
        skip
        go_wp2_with (((with_reducible refine ((awake8 _)).mono ?_); rintro z w15 ⟨rfl, hb15⟩))
        go_ret
        exact ⟨rfl, HBB.out.trans (hb15.mono HBB.out.size)⟩
      ·
        have hq1 : (b == a) = false := by simpa using hab
        have hq2 : (a == b) = false := by simpa using fun e => hab (Eq.symm e)
        clear hab
        obtain ⟨e1, e2⟩ := ld_sure hs.lost hs.has
        have HLD := load_any sN_mx w13 hd hs.ok (by omega)
        rw [e1, e2] at HLD
        clear e1 e2
        go_upto_region 13 with (((with_reducible refine (HLD).mono ?_); rintro z w14 ⟨A4, n4, c4, rfl, hrd4, hb14⟩))
        have hB14 := hB.trans (hb14.mono hB.size)
        have hcv := conv_str hrd4
        have hcva := conv_str ((HRA.out.below hB14).more hB14.size)
        have hcvb := conv_str ((HRB.out.below hB14).more hB14.size)
        have HBB := Lib.hid hB14
        clear HLD hb14 hd hB hB14 hrd4 hs hok ho
        skip
        go_wp2_with (((with_reducible refine ((awake8 _)).mono ?_); rintro z w15 ⟨rfl, hb15⟩))
        go_ret
        exact ⟨rfl, HBB.out.trans (hb15.mono HBB.out.size)⟩
    ·
      rw [hc] at HSV
      go_upto_region 11 with (((with_reducible refine (HSV).mono ?_); rintro z w12 ⟨rfl, hm12, hd12⟩))
      have hB12 := hB11.trans (mod2s hm12 (by omega) hwb hB11.size)
      have HCR := pd_crash Ak nk ck ks w12 hd12 hok (by omega) (by omega) (by omega) (fun v hv => by
        have hbv := hB12.trans ((hv.mono (N := fun i _ => i = bd) (M := fun i _ => i = gd ∨ i = bd) fun i o _ _ e => .inr e).toBelow (B := w.heap.size) (fun i o hi e => by rcases e with e | e <;> omega) hB12.size)
        exact Rd.more (Rd.below HK.out hbv) hbv.size) HKS.out
      clear HSV hm12 hd11 hB11
      go_upto_region 12 with (((with_reducible refine (HCR).mono ?_); rintro z w13 ⟨rfl, hm13, hd⟩))
      have hB := hB12.trans (mod2s hm13 (by omega) hwb hB12.size)
      clear HCR hm13 hd12 hB12
      obtain ⟨e1, e2⟩ := ld_sure hs.lost hs.has
      have HLD := load_any sN_mx w13 hd hs.ok (by omega)
      rw [e1, e2] at HLD
      clear e1 e2
      go_upto_region 13 with (((with_reducible refine (HLD).mono ?_); rintro z w14 ⟨A4, n4, c4, rfl, hrd4, hb14⟩))
      have hB14 := hB.trans (hb14.mono hB.size)
      have hcv := conv_str hrd4
      have hcva := conv_str ((HRA.out.below hB14).more hB14.size)
      have hcvb := conv_str ((HRB.out.below hB14).more hB14.size)
      have HBB := Lib.hid hB14
      clear HLD hb14 hd hB hB14 hrd4 hs hok ho
      skip
      go_wp2_with (((with_reducible refine ((awake8 _)).mono ?_); rintro z w15 ⟨rfl, hb15⟩))
      go_ret
      exact ⟨rfl, HBB.out.trans (hb15.mono HBB.out.size)⟩
  | true =>
    obtain ⟨o, ho, hok, hcase⟩ := hs.next (b := b) 1 (by omega) ks
    have HAR := pd_arm 1 (by omega) w2 hd
    go_upto_region 7 with (((with_reducible refine (HAR).mono ?_); rintro z w11 ⟨rfl, hm11, hd11⟩))
    have hB11 := hB.trans (mod2s hm11 (by omega) hwb hB.size)
    have HSV := save_any (P := Ab) (n := b.length) (pc := cb) (b := b) sN_lo sN_hi w11 hd11 (ok_arm hs.ok 1 (by omega)) (by omega) (by omega) (by omega) ((HRB.out.below hB11).more hB11.size) (by omega)
    rw [ho] at HSV
    unfold SV at HSV
    clear HAR hm11 hd hB
    rcases hcase with ⟨hc, h3, _⟩ | ⟨hc, hs2⟩
    · simp at h3
    rw [hc] at HSV
    go_upto_region 8 with (((with_reducible refine (HSV).mono ?_); rintro z w12 ⟨rfl, hm12, hd12⟩))
    have hB12 := hB11.trans (mod2s hm12 (by omega) hwb hB11.size)
    have HCR := pd_crash Ak nk ck ks w12 hd12 hok (by omega) (by omega) (by omega) (fun v hv => by
      have hbv := hB12.trans ((hv.mono (N := fun i _ => i = bd) (M := fun i _ => i = gd ∨ i = bd) fun i o _ _ e => .inr e).toBelow (B := w.heap.size) (fun i o hi e => by rcases e with e | e <;> omega) hB12.size)
      exact Rd.more (Rd.below HK.out hbv) hbv.size) HKS.out
    clear HSV hm12 hd11 hB11
    go_upto_region 9 with (((with_reducible refine (HCR).mono ?_); rintro z w13 ⟨rfl, hm13, hd⟩))
    have hB := hB12.trans (mod2s hm13 (by omega) hwb hB12.size)
    clear HCR hm13 hd12 hB12
    obtain ⟨d3, hd3⟩ : ∃ d3, ((d1.arm 1).out o).crash ks = d3 := ⟨_, rfl⟩
    rw [hd3] at hs2 hd
    clear hs hok ho hc hd3 o
    have hs := hs2
    clear hs2
    generalize w13 = w2' at *
    obtain ⟨o, ho, hok, hcase⟩ := hs.next (b := b) ((q : Int) % 6) (by omega) ks
    have HAR := pd_arm ((q : Int) % 6) (by omega) w2' hd
    go_upto_region 10 with (((with_reducible refine (HAR).mono ?_); rintro z w11 ⟨rfl, hm11, hd11⟩))
    have hB11 := hB.trans (mod2s hm11 (by omega) hwb hB.size)
    have HSV := save_any (P := Ab) (n := b.length) (pc := cb) (b := b) sN_lo sN_hi w11 hd11 (ok_arm hs.ok ((q : Int) % 6) (by omega)) (by omega) (by omega) (by omega) ((HRB.out.below hB11).more hB11.size) (by omega)
    rw [ho] at HSV
    unfold SV at HSV
    clear HAR hm11 hd hB
    rcases hcase with ⟨hc, _, hs⟩ | ⟨hc, hs⟩
    ·
      rw [hc] at HSV
      go_upto_region 11 with (((with_reducible refine (HSV).mono ?_); rintro z w12 ⟨rfl, hm12, hd12⟩))
      have hB12 := hB11.trans (mod2s hm12 (by omega) hwb hB11.size)
      have HCR := pd_crash Ak nk ck ks w12 hd12 hok (by omega) (by omega) (by omega) (fun v hv => by
        have hbv := hB12.trans ((hv.mono (N := fun i _ => i = bd) (M := fun i _ => i = gd ∨ i = bd) fun i o _ _ e => .inr e).toBelow (B := w.heap.size) (fun i o hi e => by rcases e with e | e <;> omega) hB12.size)
        exact Rd.more (Rd.below HK.out hbv) hbv.size) HKS.out
      clear HSV hm12 hd11 hB11
      go_upto_region 12 with (((with_reducible refine (HCR).mono ?_); rintro z w13 ⟨rfl, hm13, hd⟩))
      have hB := hB12.trans (mod2s hm13 (by omega) hwb hB12.size)
      clear HCR hm13 hd12 hB12
      by_cases hab : b = a
      ·
        have hq1 : (b == a) = true := by simpa using hab
        have hq2 : (a == b) = true := by simpa using hab.symm
        clear hab
        obtain ⟨e1, e2⟩ := ld_sure hs.lost hs.has
        have HLD := load_any sN_mx w13 hd hs.ok (by omega)
        rw [e1, e2] at HLD
        clear e1 e2
        go_upto_region 13 with (((with_reducible refine (HLD).mono ?_); rintro z w14 ⟨A4, n4, c4, rfl, hrd4, hb14⟩))
        have hB14 := hB.trans (hb14.mono hB.size)
        have hcv := conv_str hrd4
        have hcva := conv_str ((HRA.out.below hB14).more hB14.size)
        have hcvb := conv_str ((HRB.out.below hB14).more hB14.size)
        have HBB := Lib.hid hB14
        clear HLD hb14 hd hB hB14 hrd4 hs hok ho
        skip
        go_wp2_with (((with_reducible refine ((awake8 _)).mono ?_); rintro z w15 ⟨rfl, hb15⟩))
        go_ret
        exact ⟨rfl, HBB.out.trans (hb15.mono HBB.out.size)⟩
      ·
        have hq1 : (b == a) = false := by simpa using hab
        have hq2 : (a == b) = false := by simpa using fun e => hab (Eq.symm e)
        clear hab
        obtain ⟨e1, e2⟩ := ld_sure hs.lost hs.has
        have HLD := load_any sN_mx w13 hd hs.ok (by omega)
        rw [e1, e2] at HLD
        clear e1 e2
        go_upto_region 13 with (((with_reducible refine (HLD).mono ?_); rintro z w14 ⟨A4, n4, c4, rfl, hrd4, hb14⟩))
        have hB14 := hB.trans (hb14.mono hB.size)
        have hcv := conv_str hrd4
        have hcva := conv_str ((HRA.out.below hB14).more hB14.size)
        have hcvb := conv_str ((HRB.out.below hB14).more hB14.size)
        have HBB := Lib.hid hB14
        clear HLD hb14 hd hB hB14 hrd4 hs hok ho
        skip
        go_wp2_with (((with_reducible refine ((awake8 _)).mono ?_); rintro z w15 ⟨rfl, hb15⟩))
        go_ret
        exact ⟨rfl, HBB.out.trans (hb15.mono HBB.out.size)⟩
    ·
      rw [hc] at HSV
      go_upto_region 11 with (((with_reducible refine (HSV).mono ?_); rintro z w12 ⟨rfl, hm12, hd12⟩))
      have hB12 := hB11.trans (mod2s hm12 (by omega) hwb hB11.size)
      have HCR := pd_crash Ak nk ck ks w12 hd12 hok (by omega) (by omega) (by omega) (fun v hv => by
        have hbv := hB12.trans ((hv.mono (N := fun i _ => i = bd) (M := fun i _ => i = gd ∨ i = bd) fun i o _ _ e => .inr e).toBelow (B := w.heap.size) (fun i o hi e => by rcases e with e | e <;> omega) hB12.size)
        exact Rd.more (Rd.below HK.out hbv) hbv.size) HKS.out
      clear HSV hm12 hd11 hB11
      go_upto_region 12 with (((with_reducible refine (HCR).mono ?_); rintro z w13 ⟨rfl, hm13, hd⟩))
      have hB := hB12.trans (mod2s hm13 (by omega) hwb hB12.size)
      clear HCR hm13 hd12 hB12
      obtain ⟨e1, e2⟩ := ld_sure hs.lost hs.has
      have HLD := load_any sN_mx w13 hd hs.ok (by omega)
      rw [e1, e2] at HLD
      clear e1 e2
      go_upto_region 13 with (((with_reducible refine (HLD).mono ?_); rintro z w14 ⟨A4, n4, c4, rfl, hrd4, hb14⟩))
      have hB14 := hB.trans (hb14.mono hB.size)
      have hcv := conv_str hrd4
      have hcva := conv_str ((HRA.out.below hB14).more hB14.size)
      have hcvb := conv_str ((HRB.out.below hB14).more hB14.size)
      have HBB := Lib.hid hB14
      clear HLD hb14 hd hB hB14 hrd4 hs hok ho
      skip
      go_wp2_with (((with_reducible refine ((awake8 _)).mono ?_); rintro z w15 ⟨rfl, hb15⟩))
      go_ret
      exact ⟨rfl, HBB.out.trans (hb15.mono HBB.out.size)⟩
end Go.Proofs.Ytmoijbknjadeeaa
