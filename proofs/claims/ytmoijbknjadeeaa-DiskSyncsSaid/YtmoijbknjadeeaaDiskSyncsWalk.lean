
/- The law DiskSyncs: the Go function returns true, whatever is appended, wherever the disk is lost, whatever a crash leaves. -/
import Derived.Test.YtmoijbknjadeeaaDkAwake
import Derived.Test.YtmoijbknjadeeaaRowsB
namespace Go.Proofs.Ytmoijbknjadeeaa
set_option linter.unusedVariables false
set_option linter.unusedSimpArgs false
open Go.RowKit
/-- no file, or one; what was synced begins its sure bytes -/
def Shape (su : List UInt8) (l : List Fi) : Prop := (l = [] ∧ su = []) ∨ ∃ x, l = [x] ∧ x.k = exF ∧ (su.length : Int) ≤ x.s ∧ x.s ≤ x.b.length ∧ su = x.b.take su.length
theorem Shape.len {su : List UInt8} {l : List Fi} (h : Shape su l) : l.length ≤ 1 := by
  rcases h with ⟨rfl, _⟩ | ⟨x, rfl, _⟩ <;> simp
theorem Shape.put {su : List UInt8} {l : List Fi} (h : Shape su l) (y : List UInt8) (P : Option (Nat × Nat)) (n c : Nat) :
    applyF ⟨exF, (getF l exF).b ++ y, P, n, c, (getF l exF).s⟩ false l = [⟨exF, (getF l exF).b ++ y, P, n, c, (getF l exF).s⟩] ∧ Shape su [⟨exF, (getF l exF).b ++ y, P, n, c, (getF l exF).s⟩] := by
  rcases h with ⟨rfl, rfl⟩ | ⟨x, rfl, hk, h1, h2, h3⟩
  · exact ⟨rfl, .inr ⟨_, rfl, rfl, by show ((0 : Nat) : Int) ≤ 0; omega, by show (0 : Int) ≤ _; omega, rfl⟩⟩
  · rw [get_one x exF hk]
    have hlen : su.length ≤ x.b.length := by omega
    refine ⟨put_one hk.symm, .inr ⟨_, rfl, rfl, h1, by show x.s ≤ (((x.b ++ y).length : Nat) : Int); rw [List.length_append]; omega, ?_⟩⟩
    show su = (x.b ++ y).take su.length
    rw [List.take_append_of_le_length hlen]
    exact h3
theorem Shape.crash {su : List UInt8} {l l' : List Fi} {ks : List Nat} (h : Shape su l) (hc : l'.map Fi.core = crashF ks 0 l) :
    su.length ≤ (rdBytes l' false exF).length ∧ (rdBytes l' false exF).take su.length = su := by
  rcases h with ⟨rfl, rfl⟩ | ⟨x, rfl, hk, h1, h2, h3⟩
  · exact ⟨Nat.zero_le _, rfl⟩
  · obtain ⟨y, rfl⟩ : ∃ y, l' = [y] := by
      match l', hc with
      | [y], _ => exact ⟨y, rfl⟩
      | [], h => simp [crashF] at h
      | _ :: _ :: _, h => simp [crashF] at h
    have hy : y.core = crashX ks 0 x := by simpa [crashF] using hc
    have e1 : y.k = x.k := (congrArg Fi.k hy : y.core.k = (crashX ks 0 x).k)
    have e2 : y.b = x.b.take (crashN ks 0 x) := (congrArg Fi.b hy : y.core.b = (crashX ks 0 x).b)
    unfold rdBytes
    rw [find_one y exF (e1.trans hk), get_one y exF (e1.trans hk), e2]
    simp only [Bool.not_false, Bool.and_self, if_true]
    have hm : su.length ≤ crashN ks 0 x := by unfold crashN; omega
    have hm2 : crashN ks 0 x ≤ x.b.length := crashN_le (by omega)
    rw [List.length_take, List.take_take, Nat.min_eq_left hm]
    exact ⟨by omega, h3.symm⟩
theorem Shape.key {su : List UInt8} {l : List Fi} (h : Shape su l) : ∀ x ∈ l, x.k = exF := by
  rcases h with ⟨rfl, _⟩ | ⟨x, rfl, hk, _⟩
  · intro x hx; cases hx
  · intro y hy; simp at hy; rw [hy]; exact hk
theorem crash_len {l l' : List Fi} {ks : List Nat} {M : Nat} (hc : l'.map Fi.core = crashF ks 0 l) (hM : ∀ x ∈ l, x.b.length ≤ M) : ∀ x ∈ l', x.b.length ≤ M := by
  intro x hx
  obtain ⟨j, hj, rfl⟩ := List.getElem_of_mem hx
  have hl : l'.length = l.length := by have := congrArg List.length hc; rw [List.length_map, crashF_length] at this; exact this
  have hj2 : j < l.length := by omega
  have e := crashF_at ks 0 j l hj2
  rw [← hc, List.getElem?_map, List.getElem?_eq_getElem hj] at e
  have e2 := Option.some.inj e
  have e3 : (l'[j]).b = (l[j]).b.take (crashN ks (0 + j) l[j]) := (congrArg Fi.b e2 : (l'[j]).core.b = (crashX ks (0 + j) l[j]).b)
  rw [e3, List.length_take]
  have := hM l[j] (List.getElem_mem hj2)
  omega
theorem wr_ok {armed : Bool} {left : Int} (h : (wrP false armed left).code = 0) : (wrP false armed left).lost = false := by
  unfold wrP at h ⊢
  cases armed
  · rfl
  · by_cases h0 : left = 0
    · simp [h0] at h
    · simp [h0]
set_option maxRecDepth 100000 in
set_option maxHeartbeats 4000000 in
theorem diskSyncs_walk {Al : Option Addr} {nl cl : Nat} {ys : List Bsl} {m : Nat} (hm : m < 256) {Ak : Option Addr} {nk ck : Nat} {ks : List Nat} (w : World) (hl : RdS w w.heap.size Al nl cl ys) (hk : RdK w w.heap.size Ak nk ck ks) (hks : ∀ x ∈ ks, x < 65536) :
    Calls Try.prog 3 #[.slice Al nl cl, .int .u8 (m : Int), .slice Ak nk ck] w fun x w' => x = .returned (.bool true) ∧ Below w.heap.size w w' := by
  have hfs : exF.size ≤ maxLen := by show (1 : Nat) ≤ maxLen; simp only [maxLen]; omega
  have hlen := hl.length
  have hlle := hl.1.le
  have hlmx := hl.1.max
  unfold maxLen at hlmx
  have HL := Lib.hid hl
  have HK := Lib.hid hk
  have HKS := Lib.hid hks
  clear hl hk hks
  have hwm : IntKind.i64.wrap (m : Int) = (m : Int) := IntWalk.i64_in _ (by omega)
  go_enter Try.func3, Try.ntmps3
  go_upto_region 2 with (((with_reducible refine ((new_dk w)).mono ?_); rintro z w1 ⟨g, b, rfl, hd, hwb, hbg, hb⟩))
  have HARM := arm_any ((m : Int) % 30) (by omega) w1 hd
  rw [if_neg (by omega)] at HARM
  go_upto_region 3 with (((with_reducible refine (HARM).mono ?_); rintro z w2 ⟨rfl, hd2, hG2⟩))
  have hB2 := chainG hb hG2 (by omega)
  have HD := Lib.hid hd2
  have HB := Lib.hid hB2
  clear HARM hd hd2 hG2 hb hB2 hwm
  obtain ⟨left0, hl0⟩ : ∃ left0, (m : Int) % 30 = left0 := ⟨_, rfl⟩
  rw [hl0] at HD
  clear hl0
  go_wp2_with fail
  go_loopw [8, 23] (fun s i wr => ∃ (k N : Nat) (l : List Fi) (su : List UInt8) (lost : Bool) (left : Int), i = .int .i64 (k : Int) ∧ s = .string ⟨su.toArray⟩ ∧ k ≤ nl ∧ k ≤ 12 ∧ N ≤ 2 * k ∧ IsDk wr g b N l lost true left ∧ (∀ x ∈ l, x.b.length ≤ 40 * k) ∧ Shape su l ∧ Below w.heap.size w wr) (fun _ i _ => nl - (intOf i).toNat)
  case atStart => exact ⟨0, 0, [], [], false, left0, rfl, rfl, Nat.zero_le _, by omega, Nat.le_refl _, HD.out, by simp, .inl ⟨rfl, rfl⟩, HB.out⟩
  case round =>
    clear HD HB
    obtain ⟨k, N, l, su, lost, left, rfl, rfl, hk, hk12, hN, hD, hZ0, hS, hB⟩ := hrel
    have hZ : ∀ x ∈ l, x.b.length ≤ 600 := fun x hx => by have := hZ0 x hx; omega
    by_cases hlt : k < nl
    · obtain ⟨ga, oa, e, hga, hcell, hry⟩ := HL.out.get (k := k) (by omega)
      subst e
      have hcell2 := ((bcell (Below.mono (B := w.heap.size) hB (Nat.le_refl _))).1 _ _ hga).trans hcell
      clear hcell
      generalize ys[k] = y at *
      obtain ⟨yA, yn, yc, yl⟩ := y
      simp only at hcell2 hry
      have hyn := hry.length
      by_cases h12 : 12 ≤ k
      ·
        have hd12 : decide (12 ≤ (k : Int)) = true := decide_eq_true (by omega)
        go_upto_region 14 with fail
        have HCR := crash_any Ak nk ck ks wr hD (by omega) (by have := hS.len; omega)
          (fun v hm => by have hbv := hB.trans (hm.toBelow (B := w.heap.size) (fun i o hi e => by omega) hB.size); exact Rd.more (Rd.below HK.out hbv) hbv.size) HKS.out
          (fun x hx => ⟨by have := hZ x hx; omega, by rw [hS.key x hx]; exact hfs⟩)
        have HS := Lib.hid hS
        have hlS := hS.len
        clear hS
        go_upto_region 15 with (((with_reducible refine (HCR).mono ?_); rintro z v1 ⟨rfl, hm8, l8, hl8, hd8⟩))
        have hcr := HS.out.crash hl8
        have hB8 := hB.trans (hm8.toBelow (fun i o hi e => by rcases e with e | e <;> omega) hB.size)
        have hz8 : ∀ x ∈ l8, x.b.length ≤ 1099511627776 := fun x hx => Nat.le_trans (crash_len hl8 hZ x hx) (by omega)
        have HRD := dread_any exF hfs v1 hd8 hz8
        obtain ⟨bb, hbb⟩ : ∃ bb, rdBytes l8 false exF = bb := ⟨_, rfl⟩
        rw [hbb] at HRD hcr
        obtain ⟨cc, hcc⟩ : ∃ cc, rdCode l8 false exF = cc := ⟨_, rfl⟩
        rw [hcc] at HRD
        obtain ⟨hc1, hc2⟩ := hcr
        clear HCR hm8 hl8 hd8 hbb hcc hz8 HS hD hB hZ
        go_upto_region 16 with (((with_reducible refine (HRD).mono ?_); rintro z v2 ⟨A9, n9, c9, rfl, hown9, hb9⟩))
        have hn9 := hown9.length
        have hrd9 := hown9.rd
        have hle9 := hrd9.le
        have hmx9 := hrd9.max
        unfold maxLen at hmx9
        have hrt := RdB.take hrd9 (k := su.length) (c' := c9) (by omega) (by omega) (Nat.le_refl _)
        rw [hc2] at hrt
        have hcv := conv_str hrt
        have HB := Lib.hid (chain hB8 hb9)
        have hq1 : su.length ≤ n9 := by omega
        have hq2 : decide ((su.length : Int) ≤ (n9 : Int)) = true := decide_eq_true (by omega)
        clear HRD hB8 hb9 hown9 hrd9 hrt hc1 hc2 hn9
        go_wp2_with (((with_reducible refine ((awake6 v2)).mono ?_); rintro z v3 ⟨rfl, hb3⟩))
        go_ret
        exact ⟨rfl, chain HB.out hb3⟩
      · have hd12 : decide (12 ≤ (k : Int)) = false := decide_eq_false (by omega)
        by_cases h40 : 40 < yn
        ·
          have hd40 : decide (40 < (yn : Int)) = true := decide_eq_true (by omega)
          go_upto_region 14 with fail
          have HCR := crash_any Ak nk ck ks wr hD (by omega) (by have := hS.len; omega)
            (fun v hm => by have hbv := hB.trans (hm.toBelow (B := w.heap.size) (fun i o hi e => by omega) hB.size); exact Rd.more (Rd.below HK.out hbv) hbv.size) HKS.out
            (fun x hx => ⟨by have := hZ x hx; omega, by rw [hS.key x hx]; exact hfs⟩)
          have HS := Lib.hid hS
          have hlS := hS.len
          clear hS
          go_upto_region 15 with (((with_reducible refine (HCR).mono ?_); rintro z v1 ⟨rfl, hm8, l8, hl8, hd8⟩))
          have hcr := HS.out.crash hl8
          have hB8 := hB.trans (hm8.toBelow (fun i o hi e => by rcases e with e | e <;> omega) hB.size)
          have hz8 : ∀ x ∈ l8, x.b.length ≤ 1099511627776 := fun x hx => Nat.le_trans (crash_len hl8 hZ x hx) (by omega)
          have HRD := dread_any exF hfs v1 hd8 hz8
          obtain ⟨bb, hbb⟩ : ∃ bb, rdBytes l8 false exF = bb := ⟨_, rfl⟩
          rw [hbb] at HRD hcr
          obtain ⟨cc, hcc⟩ : ∃ cc, rdCode l8 false exF = cc := ⟨_, rfl⟩
          rw [hcc] at HRD
          obtain ⟨hc1, hc2⟩ := hcr
          clear HCR hm8 hl8 hd8 hbb hcc hz8 HS hD hB hZ
          go_upto_region 16 with (((with_reducible refine (HRD).mono ?_); rintro z v2 ⟨A9, n9, c9, rfl, hown9, hb9⟩))
          have hn9 := hown9.length
          have hrd9 := hown9.rd
          have hle9 := hrd9.le
          have hmx9 := hrd9.max
          unfold maxLen at hmx9
          have hrt := RdB.take hrd9 (k := su.length) (c' := c9) (by omega) (by omega) (Nat.le_refl _)
          rw [hc2] at hrt
          have hcv := conv_str hrt
          have HB := Lib.hid (chain hB8 hb9)
          have hq1 : su.length ≤ n9 := by omega
          have hq2 : decide ((su.length : Int) ≤ (n9 : Int)) = true := decide_eq_true (by omega)
          clear HRD hB8 hb9 hown9 hrd9 hrt hc1 hc2 hn9
          go_wp2_with (((with_reducible refine ((awake6 v2)).mono ?_); rintro z v3 ⟨rfl, hb3⟩))
          go_ret
          exact ⟨rfl, chain HB.out hb3⟩
        · have hd40 : decide (40 < (yn : Int)) = false := decide_eq_false (by omega)
          have hrv : ∀ v, wr.grownBy v (some g) → RdB v v.heap.size yA yn yc yl := fun v hG => by
            have hbv := chainG hB hG (by omega)
            exact RdB.more (RdB.below hry hbv) hbv.size
          cases lost with
          | true =>
            have HAP := append_lost exF (by show 1 ≤ 1; omega) yA yn yc wr hD
            go_upto_region 14 with (((with_reducible refine (HAP).mono ?_); rintro z w4 ⟨rfl, hD4, hG4⟩))
            replace hD := hD4
            replace hB := chainG hB hG4 (by omega)
            clear HAP hD4 hG4 hrv hcell2
            have HCR := crash_any Ak nk ck ks w4 hD (by omega) (by have := hS.len; omega)
              (fun v hm => by have hbv := hB.trans (hm.toBelow (B := w.heap.size) (fun i o hi e => by omega) hB.size); exact Rd.more (Rd.below HK.out hbv) hbv.size) HKS.out
              (fun x hx => ⟨by have := hZ x hx; omega, by rw [hS.key x hx]; exact hfs⟩)
            have HS := Lib.hid hS
            have hlS := hS.len
            clear hS
            go_upto_region 15 with (((with_reducible refine (HCR).mono ?_); rintro z v1 ⟨rfl, hm8, l8, hl8, hd8⟩))
            have hcr := HS.out.crash hl8
            have hB8 := hB.trans (hm8.toBelow (fun i o hi e => by rcases e with e | e <;> omega) hB.size)
            have hz8 : ∀ x ∈ l8, x.b.length ≤ 1099511627776 := fun x hx => Nat.le_trans (crash_len hl8 hZ x hx) (by omega)
            have HRD := dread_any exF hfs v1 hd8 hz8
            obtain ⟨bb, hbb⟩ : ∃ bb, rdBytes l8 false exF = bb := ⟨_, rfl⟩
            rw [hbb] at HRD hcr
            obtain ⟨cc, hcc⟩ : ∃ cc, rdCode l8 false exF = cc := ⟨_, rfl⟩
            rw [hcc] at HRD
            obtain ⟨hc1, hc2⟩ := hcr
            clear HCR hm8 hl8 hd8 hbb hcc hz8 HS hD hB hZ
            go_upto_region 16 with (((with_reducible refine (HRD).mono ?_); rintro z v2 ⟨A9, n9, c9, rfl, hown9, hb9⟩))
            have hn9 := hown9.length
            have hrd9 := hown9.rd
            have hle9 := hrd9.le
            have hmx9 := hrd9.max
            unfold maxLen at hmx9
            have hrt := RdB.take hrd9 (k := su.length) (c' := c9) (by omega) (by omega) (Nat.le_refl _)
            rw [hc2] at hrt
            have hcv := conv_str hrt
            have HB := Lib.hid (chain hB8 hb9)
            have hq1 : su.length ≤ n9 := by omega
            have hq2 : decide ((su.length : Int) ≤ (n9 : Int)) = true := decide_eq_true (by omega)
            clear HRD hB8 hb9 hown9 hrd9 hrt hc1 hc2 hn9
            go_wp2_with (((with_reducible refine ((awake6 v2)).mono ?_); rintro z v3 ⟨rfl, hb3⟩))
            go_ret
            exact ⟨rfl, chain HB.out hb3⟩
          | false =>
            have HAP := append_yes exF (by show 1 ≤ 1; omega) hfs yA yn yc yl wr hD hrv (by omega) (by omega) (fun x hx => by have := hZ x hx; omega)
            unfold StoreR at HAP
            have hput := hS.put yl
            have hcd := wr_cases false true left
            have hok := wr_ok (armed := true) (left := left)
            have hgb : (getF l exF).b.length ≤ 40 * k := by
              rcases hS with ⟨rfl, _⟩ | ⟨x, rfl, hxk, _⟩
              · exact Nat.zero_le _
              · rw [get_one x exF hxk]; exact hZ0 x (by simp)
            generalize wrP false true left = q at *
            obtain ⟨code, now, lost', left'⟩ := q
            simp only at HAP hcd hok
            generalize (getF l exF).s = fs at *
            generalize (getF l exF).b = fb at *
            have HOK := Lib.hid hok
            clear hok
            rcases hcd with rfl | rfl
            rotate_left
            ·
              go_upto_region 14 with (((with_reducible refine (HAP).mono ?_); rintro z w4 ⟨rfl, hm4, P4, n4, c4, hD4⟩))
              obtain ⟨hp1, hp2⟩ := hput P4 n4 c4
              rw [hp1] at hD4
              replace hD := hD4
              replace hS := hp2
              replace hZ : ∀ x ∈ [(⟨exF, fb ++ yl, P4, n4, c4, fs⟩ : Fi)], x.b.length ≤ 600 := fun x hx => by simp at hx; subst hx; show (fb ++ yl).length ≤ 600; rw [List.length_append]; omega
              replace hB := hB.trans (hm4.toBelow (fun i o hi e => by rcases e with e | e <;> omega) hB.size)
              clear HAP hD4 hm4 hrv hcell2 hp1 hp2 hput hZ0 HOK
              have HCR := crash_any Ak nk ck ks w4 hD (by omega) (by have := hS.len; omega)
                (fun v hm => by have hbv := hB.trans (hm.toBelow (B := w.heap.size) (fun i o hi e => by omega) hB.size); exact Rd.more (Rd.below HK.out hbv) hbv.size) HKS.out
                (fun x hx => ⟨by have := hZ x hx; omega, by rw [hS.key x hx]; exact hfs⟩)
              have HS := Lib.hid hS
              have hlS := hS.len
              clear hS
              go_upto_region 15 with (((with_reducible refine (HCR).mono ?_); rintro z v1 ⟨rfl, hm8, l8, hl8, hd8⟩))
              have hcr := HS.out.crash hl8
              have hB8 := hB.trans (hm8.toBelow (fun i o hi e => by rcases e with e | e <;> omega) hB.size)
              have hz8 : ∀ x ∈ l8, x.b.length ≤ 1099511627776 := fun x hx => Nat.le_trans (crash_len hl8 hZ x hx) (by omega)
              have HRD := dread_any exF hfs v1 hd8 hz8
              obtain ⟨bb, hbb⟩ : ∃ bb, rdBytes l8 false exF = bb := ⟨_, rfl⟩
              rw [hbb] at HRD hcr
              obtain ⟨cc, hcc⟩ : ∃ cc, rdCode l8 false exF = cc := ⟨_, rfl⟩
              rw [hcc] at HRD
              obtain ⟨hc1, hc2⟩ := hcr
              clear HCR hm8 hl8 hd8 hbb hcc hz8 HS hD hB hZ
              go_upto_region 16 with (((with_reducible refine (HRD).mono ?_); rintro z v2 ⟨A9, n9, c9, rfl, hown9, hb9⟩))
              have hn9 := hown9.length
              have hrd9 := hown9.rd
              have hle9 := hrd9.le
              have hmx9 := hrd9.max
              unfold maxLen at hmx9
              have hrt := RdB.take hrd9 (k := su.length) (c' := c9) (by omega) (by omega) (Nat.le_refl _)
              rw [hc2] at hrt
              have hcv := conv_str hrt
              have HB := Lib.hid (chain hB8 hb9)
              have hq1 : su.length ≤ n9 := by omega
              have hq2 : decide ((su.length : Int) ≤ (n9 : Int)) = true := decide_eq_true (by omega)
              clear HRD hB8 hb9 hown9 hrd9 hrt hc1 hc2 hn9
              go_wp2_with (((with_reducible refine ((awake6 v2)).mono ?_); rintro z v3 ⟨rfl, hb3⟩))
              go_ret
              exact ⟨rfl, chain HB.out hb3⟩
            ·
              have hlo : lost' = false := HOK.out rfl
              subst hlo
              go_upto_region 8 with (((with_reducible refine (HAP).mono ?_); rintro z w4 ⟨rfl, hm4, P4, n4, c4, hD4⟩))
              obtain ⟨hp1, hp2⟩ := hput P4 n4 c4
              rw [hp1] at hD4
              replace hD := hD4
              replace hS := hp2
              have hxl : (fb ++ yl).length ≤ 40 * (k + 1) := by rw [List.length_append]; omega
              replace hB := hB.trans (hm4.toBelow (fun i o hi e => by rcases e with e | e <;> omega) hB.size)
              have HRD := dread_any exF hfs w4 hD (fun x hx => by simp at hx; subst hx; show (fb ++ yl).length ≤ 1099511627776; omega)
              have hfo := find_one ⟨exF, fb ++ yl, P4, n4, c4, fs⟩ exF rfl
              have hgo := get_one ⟨exF, fb ++ yl, P4, n4, c4, fs⟩ exF rfl
              unfold rdCode rdBytes at HRD
              rw [hfo, hgo] at HRD
              simp only [if_true, Bool.false_eq_true, if_false, Bool.not_false, Bool.and_self] at HRD
              clear HAP hD4 hm4 hrv hcell2 hp1 hp2 hput hZ0 hZ
              go_upto_region 11 with (((with_reducible refine (HRD).mono ?_); rintro z w5 ⟨A5, n5, c5, rfl, hown5, hb5⟩))
              replace hD := hD.step hb5
              replace hB := chain hB hb5
              clear HRD hb5
              by_cases h2 : k % 2 = 0
              ·
                have hr2 : ((k : Int) % 2 == 0) = true := by simp; omega
                have HSY := sync_go exF hfs w5 hD hfo (by omega)
                rw [hgo] at HSY
                simp only at HSY
                have hcd2 := wr_cases false true left'
                generalize wrP false true left' = q2 at *
                obtain ⟨code2, now2, lost2, left2⟩ := q2
                simp only at hcd2
                rcases hcd2 with rfl | rfl
                ·
                  have hcv := fun v (hm : Mod (fun i _ => i = g ∨ i = b) w5 v) => conv_str (OwnB.rd (own_mod (show World.ownsRow _ _ _ _ _ _ _ from hown5) hm (fun i o ho _ hit => hD.free ho hit (by decide))))
                  have HCV := Lib.hid hcv
                  clear hcv
                  go_wp2_with (((with_reducible refine (HSY).mono ?_); rintro z w6 ⟨rfl, hm6, _, hy6⟩); (have hcv6 := HCV.out w6 hm6))
                  obtain ⟨l6, ⟨P6, n6, c6, rfl⟩, hD6⟩ := hy6 (by trivial)
                  rw [put_one (e := ⟨exF, fb ++ yl, P6, n6, c6, _⟩) (c := ⟨exF, fb ++ yl, P4, n4, c4, fs⟩) rfl] at hD6
                  have HD := Lib.hid hD6
                  have HB := Lib.hid (hB.trans (hm6.toBelow (fun i o hi e => by rcases e with e | e <;> omega) hB.size))
                  clear HSY hD hD6 hm6 hy6 hB hcv6 hown5
                  go_roundw
                  case rel => exact ⟨k + 1, N + 1 + 1, _, fb ++ yl, _, _, by go_num, rfl, by omega, by omega, by omega, HD.out, (fun x hx => by simp at hx; subst hx; exact hxl), .inr ⟨_, rfl, rfl, Int.le_refl _, Int.le_refl _, by rw [List.take_of_length_le (Nat.le_refl _)]⟩, HB.out⟩
                  case measure => simp [intOf]; omega
                ·
                  go_wp2_with (((with_reducible refine (HSY).mono ?_); rintro z w6 ⟨rfl, hm6, hy6, _⟩))
                  have hD6 := hy6 (show ¬ (12 : Int) = 0 by decide)
                  have HD := Lib.hid hD6
                  have HB := Lib.hid (hB.trans (hm6.toBelow (fun i o hi e => by rcases e with e | e <;> omega) hB.size))
                  have HS := Lib.hid hS
                  clear HSY hD hD6 hm6 hy6 hB hown5 hS
                  go_roundw
                  case rel => exact ⟨k + 1, N + 1, _, su, _, _, by go_num, rfl, by omega, by omega, by omega, HD.out, (fun x hx => by simp at hx; subst hx; exact hxl), HS.out, HB.out⟩
                  case measure => simp [intOf]; omega
              ·
                have hr2 : ((k : Int) % 2 == 0) = false := by simp; omega
                have HD := Lib.hid hD
                have HB := Lib.hid hB
                have HS := Lib.hid hS
                clear hD hB hown5 hS
                go_wp2_with fail
                go_roundw
                case rel => exact ⟨k + 1, N + 1, _, su, _, _, by go_num, rfl, by omega, by omega, by omega, HD.out, (fun x hx => by simp at hx; subst hx; exact hxl), HS.out, HB.out⟩
                case measure => simp [intOf]; omega
    ·
      go_upto_region 14 with fail
      have HCR := crash_any Ak nk ck ks wr hD (by omega) (by have := hS.len; omega)
        (fun v hm => by have hbv := hB.trans (hm.toBelow (B := w.heap.size) (fun i o hi e => by omega) hB.size); exact Rd.more (Rd.below HK.out hbv) hbv.size) HKS.out
        (fun x hx => ⟨by have := hZ x hx; omega, by rw [hS.key x hx]; exact hfs⟩)
      have HS := Lib.hid hS
      have hlS := hS.len
      clear hS
      go_upto_region 15 with (((with_reducible refine (HCR).mono ?_); rintro z v1 ⟨rfl, hm8, l8, hl8, hd8⟩))
      have hcr := HS.out.crash hl8
      have hB8 := hB.trans (hm8.toBelow (fun i o hi e => by rcases e with e | e <;> omega) hB.size)
      have hz8 : ∀ x ∈ l8, x.b.length ≤ 1099511627776 := fun x hx => Nat.le_trans (crash_len hl8 hZ x hx) (by omega)
      have HRD := dread_any exF hfs v1 hd8 hz8
      obtain ⟨bb, hbb⟩ : ∃ bb, rdBytes l8 false exF = bb := ⟨_, rfl⟩
      rw [hbb] at HRD hcr
      obtain ⟨cc, hcc⟩ : ∃ cc, rdCode l8 false exF = cc := ⟨_, rfl⟩
      rw [hcc] at HRD
      obtain ⟨hc1, hc2⟩ := hcr
      clear HCR hm8 hl8 hd8 hbb hcc hz8 HS hD hB hZ
      go_upto_region 16 with (((with_reducible refine (HRD).mono ?_); rintro z v2 ⟨A9, n9, c9, rfl, hown9, hb9⟩))
      have hn9 := hown9.length
      have hrd9 := hown9.rd
      have hle9 := hrd9.le
      have hmx9 := hrd9.max
      unfold maxLen at hmx9
      have hrt := RdB.take hrd9 (k := su.length) (c' := c9) (by omega) (by omega) (Nat.le_refl _)
      rw [hc2] at hrt
      have hcv := conv_str hrt
      have HB := Lib.hid (chain hB8 hb9)
      have hq1 : su.length ≤ n9 := by omega
      have hq2 : decide ((su.length : Int) ≤ (n9 : Int)) = true := decide_eq_true (by omega)
      clear HRD hB8 hb9 hown9 hrd9 hrt hc1 hc2 hn9
      go_wp2_with (((with_reducible refine ((awake6 v2)).mono ?_); rintro z v3 ⟨rfl, hb3⟩))
      go_ret
      exact ⟨rfl, chain HB.out hb3⟩
end Go.Proofs.Ytmoijbknjadeeaa
