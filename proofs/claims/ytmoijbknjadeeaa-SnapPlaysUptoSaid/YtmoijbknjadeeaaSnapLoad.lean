
/- Chapter 8: Load of the program; Save and Load of the document. -/
import Derived.Test.YtmoijbknjadeeaaSnapSave
namespace Go.Proofs.Ytmoijbknjadeeaa
set_option linter.unusedVariables false
set_option linter.unusedSimpArgs false
open Go.RowKit
def ldC (d : PD) (nm : ByteArray) : Int := if d.rc nm = 0 then (if wholeB (d.rb nm) then 0 else 5) else d.rc nm
def ldB (d : PD) (nm : ByteArray) : List UInt8 := if d.rc nm = 0 then (if wholeB (d.rb nm) then (d.rb nm).take ((d.rb nm).length - 4) else []) else []
def RSV (w w' : World) (gr : Nat) (d : PD) (o : Out) (x : Ending) : Prop := x = .returned (.int .i64 o.code) ∧ Mod (fun i _ => i = gr) w w' ∧ IsR w' gr (d.out o)
section
variable {w w' : World} {gd bd gr N n pc M K : Nat} {A P : Option Addr} {sp nm : ByteArray} {b : List UInt8} {d : PD}
theorem save_empty (p : Option Addr) (hk : nm.size = 0) (w : World) : Calls Try.prog 43 #[.pointer p, .string nm, .slice P n pc] w fun x w' => x = .returned (.int .i64 1) ∧ Below w.heap.size w w' := by
  have he := emptyS_iff nm
  rw [decide_eq_false (by omega)] at he
  obtain ⟨hA, hN', hP, hb1⟩ := three_at w 24 [.pointer p] 9 [.string nm] 27 [.slice P n pc]
  go_enter Try.func43, Try.ntmps43
  go_upto_region 1 with fail
  generalize World.alloc (World.alloc (World.alloc w _) _) _ = w1 at *
  obtain ⟨n0, nf⟩ := at1 hN'
  have HB := Lib.hid hb1
  clear hA hN' hP hb1
  go_wp2_with fail
  go_ret
  exact ⟨rfl, HB.out⟩
theorem save_nil (hk : 1 ≤ nm.size) (w : World) : Calls Try.prog 43 #[.pointer none, .string nm, .slice P n pc] w fun x w' => x = .returned (.int .i64 2) ∧ Below w.heap.size w w' := by
  have he := emptyS_iff nm
  rw [decide_eq_true hk] at he
  obtain ⟨hA, hN', hP, hb1⟩ := three_at w 24 [.pointer none] 9 [.string nm] 27 [.slice P n pc]
  go_enter Try.func43, Try.ntmps43
  go_upto_region 1 with fail
  generalize World.alloc (World.alloc (World.alloc w _) _) _ = w1 at *
  obtain ⟨n0, nf⟩ := at1 hN'
  obtain ⟨a0, af⟩ := at1 hA
  have HB := Lib.hid hb1
  clear hA hN' hP hb1
  go_wp2_with fail
  go_ret
  exact ⟨rfl, HB.out⟩
theorem load_nil (w : World) : Calls Try.prog 48 #[.pointer none, .string nm] w fun x w' => x = .returned (.tuple #[.slice none 0 0, .int .i64 2]) ∧ w = w' := by
  go_enter Try.func48, Try.ntmps48
  go_wp2_with (((with_reducible refine ((dread_nil nm w)).mono ?_); rintro z v ⟨rfl, rfl⟩))
  exact bodyPost_ret (v := .tuple #[.slice none 0 0, .int .i64 2]) (by simp [results, Try.results48, go_sem]) rfl ⟨rfl, rfl⟩
def LD (w w' : World) (c : Int) (l : List UInt8) (x : Ending) : Prop := ∃ A n k, x = .returned (.tuple #[.slice A n k, .int .i64 c]) ∧ RdB w' w'.heap.size A n k l ∧ Below w.heap.size w w'
theorem load_any (hk : nm.size ≤ maxLen) (w : World) (h : IsD w gd bd N d) (ho : d.Ok M K) (hM : M ≤ 10000000) :
    Calls Try.prog 48 #[.pointer (some ⟨gd, 0, none⟩), .string nm] w fun x w' => LD w w' (ldC d nm) (ldB d nm) x := by
  have HR := pd_rd nm hk w h ho (by omega)
  have hlen := ok_rb ho nm
  unfold ldC ldB
  obtain ⟨rc, hrc⟩ : ∃ rc, d.rc nm = rc := ⟨_, rfl⟩
  obtain ⟨rb, hrb⟩ : ∃ rb, d.rb nm = rb := ⟨_, rfl⟩
  rw [hrb] at hlen
  rw [hrc, hrb] at HR ⊢
  clear hrc hrb h ho
  by_cases h0 : rc = 0
  · subst h0
    rw [if_pos rfl, if_pos rfl]
    obtain ⟨q, hq⟩ : ∃ q, wholeB rb = q := ⟨_, rfl⟩
    rw [hq]
    cases q with
    | true =>
      rw [if_pos rfl, if_pos rfl]
      have h4 : 4 ≤ rb.length := Nat.le_of_not_lt fun h => by rw [wholeB_short h] at hq; cases hq
      obtain ⟨m, hm⟩ : ∃ m, rb.length = m + 4 := ⟨rb.length - 4, by omega⟩
      have e1 : rb.length - 4 = m := by omega
      rw [e1]
      go_enter Try.func48, Try.ntmps48
      go_upto_region 2 with (((with_reducible refine (HR).mono ?_); rintro z w1 ⟨A, n, c, rfl, hown, hb1⟩))
      obtain rfl : rb.length = n := hown.length
      have hrd := hown.rd
      have HB := Lib.hid hb1
      clear HR hown hb1
      have HW := whole_any A rb.length c rb w1 hrd (by omega)
      rw [hq] at HW
      have hrl := hrd.take (k := m) (by omega) (c' := c) (by have := hrd.le; omega) (Nat.le_refl _)
      have hle := hrd.le
      rw [hm] at HW hle ⊢
      have HRL := Lib.hid hrl
      have hs1 : IntKind.i64.wrap (((m + 4 : Nat) : Int) - 4) = (m : Int) := by rw [IntWalk.i64_in _ (by have := hrd.max; unfold maxLen at this; omega)]; omega
      have hs2 : (((m + 4 : Nat) : Int) - 4) = (m : Int) := by omega
      have hs3 : (((m : Int) + 4) - 4) = (m : Int) := by omega
      have hs4 : IntKind.i64.wrap (m : Int) = (m : Int) := IntWalk.i64_in _ (by have := hrd.max; unfold maxLen at this; omega)
      clear hrl hrd hm e1 hlen h4 hq
      go_wp2_with (((with_reducible refine (HW).mono ?_); rintro z w2 ⟨rfl, hb2⟩))
      exact bodyPost_ret (v := .tuple #[.slice A m c, .int .i64 0]) (by simp [results, Try.results48, go_sem]) rfl ⟨A, m, c, rfl, (HRL.out.below hb2).more hb2.size, chain HB.out hb2⟩
    | false =>
      rw [if_neg (by simp), if_neg (by simp)]
      go_enter Try.func48, Try.ntmps48
      go_upto_region 2 with (((with_reducible refine (HR).mono ?_); rintro z w1 ⟨A, n, c, rfl, hown, hb1⟩))
      obtain rfl : rb.length = n := hown.length
      have hrd := hown.rd
      have HB := Lib.hid hb1
      clear HR hown hb1
      have HW := whole_any A rb.length c rb w1 hrd (by omega)
      rw [hq] at HW
      clear hrd hlen hq
      go_wp2_with (((with_reducible refine (HW).mono ?_); rintro z w2 ⟨rfl, hb2⟩))
      exact bodyPost_ret (v := .tuple #[.slice none 0 0, .int .i64 5]) (by simp [results, Try.results48, go_sem]) rfl ⟨none, 0, 0, rfl, RdB.nil, chain HB.out hb2⟩
  · rw [if_neg h0, if_neg h0]
    have hn : (rc == 0) = false := by simpa using h0
    have hn2 : (rc != 0) = true := by simpa using h0
    go_enter Try.func48, Try.ntmps48
    go_upto_region 2 with (((with_reducible refine (HR).mono ?_); rintro z w1 ⟨A, n, c, rfl, hown, hb1⟩))
    obtain rfl : rb.length = n := hown.length
    have hrd := hown.rd
    have HB := Lib.hid hb1
    clear HR hown hb1
    clear hrd hlen h0
    go_wp2_with fail
    exact bodyPost_ret (v := .tuple #[.slice none 0 0, .int .i64 rc]) (by simp [results, Try.results48, go_sem]) rfl ⟨none, 0, 0, rfl, RdB.nil, HB.out⟩
set_option maxRecDepth 100000 in
set_option maxHeartbeats 4000000 in
theorem rsave_any (hnm1 : 1 ≤ nm.size) (hnm : nm.size + 1 ≤ maxLen) (w : World) (hd : IsR w gr d) (ho : d.Ok M K) (hM : M ≤ 10000000) (hK : K ≤ 100000) (hr : RdB w w.heap.size P n pc b) (hn : n ≤ 1000000) :
    Calls Try.prog 44 #[.pointer (some ⟨gr, 0, none⟩), .string nm, .slice P n pc] w fun x w' => RSV w w' gr d (svO d (spF nm) nm b) x := by
  have he := emptyS_iff nm
  rw [decide_eq_true hnm1] at he
  have hsps : (spF nm).size ≤ maxLen := by rw [spF_size]; exact hnm
  have hmx := hnm
  unfold maxLen at hmx
  have g1 : ¬ 9223372036854775807 < nm.size + 1 := by omega
  have g2 : ¬ (9223372036854775807 : Int) < (nm.size : Int) + 1 := by omega
  have g3 : (⟨#[126]⟩ : ByteArray).size = 1 := rfl
  have g4 : nm ++ (⟨#[126]⟩ : ByteArray) = spF nm := rfl
  generalize spF nm = sp at *
  have hbl : b.length = n := hr.length
  have hrdv : ∀ v, Mod (fun i _ => i = gr) w v → RdB v v.heap.size P n pc b := fun v hm => hd.rdb hr (Nat.le_refl _) hm
  have HRD := Lib.hid hrdv
  have HA := fun (D : PD) (ho : D.Ok M K) (v : World) (h : IsR v gr D) => rd_ap sp (slL b) v h ho (by omega) (by omega) (by rw [show (slL b).length = n + 4 from by unfold slL; rw [List.length_append, hbl]; rfl]; omega)
  have HRM := rd_rm sp w hd ho (by omega)
  obtain ⟨o0, ho0⟩ : ∃ o, d.rmO sp = o := ⟨_, rfl⟩
  have hok0 := ok_rm ho sp
  rw [ho0] at hok0 HRM
  have HO0 := Lib.hid ho0
  clear ho0 hd hr hrdv
  go_enter Try.func44, Try.ntmps44
  go_upto_region 4 with (((with_reducible refine (HRM).mono ?_); rintro z w1 ⟨rfl, hm1, hd1⟩))
  have HM := Lib.hid hm1
  have HD := Lib.hid hd1
  clear HRM hm1 hd1
  by_cases h06 : o0.code = 0 ∨ o0.code = 6
  rotate_left
  ·
    have n0 : ¬ o0.code = 0 := fun h => h06 (.inl h)
    have n6 : ¬ o0.code = 6 := fun h => h06 (.inr h)
    have nb0 : (o0.code != 0) = true := by simpa using n0
    have nb6 : (o0.code != 6) = true := by simpa using n6
    have nc0 : (o0.code == 0) = false := by simpa using n0
    have nc6 : (o0.code == 6) = false := by simpa using n6
    have N0 := Lib.hid n0
    have N6 := Lib.hid n6
    clear h06 n0 n6
    go_wp2_with fail
    go_ret
    rw [svO_0 HO0.out N0.out N6.out]
    exact ⟨rfl, HM.out, HD.out⟩
  have hsv : svO d sp nm b = sv3 (d.out o0) sp nm b := by unfold svO; rw [HO0.out, if_pos h06]
  have HE := Lib.hid hsv
  clear hsv
  obtain ⟨o1, ho1⟩ : ∃ o, (d.out o0).apO sp (slL b) = o := ⟨_, rfl⟩
  have hok1 := (ok_ap hok0 sp hsps (slL b)).mono (show M + (slL b).length ≤ 20000000 by unfold slL; rw [List.length_append, hbl]; show M + (n + 4) ≤ _; omega) (show K + 1 ≤ 200000 by omega)
  rw [ho1] at hok1
  have HA1 := fun v (h : IsR v gr (d.out o0)) => HA _ hok0 v h
  rw [ho1] at HA1
  have HO1 := Lib.hid ho1
  clear ho1 HA
  have hfc : (⟨b.toArray⟩ : ByteArray) ++ ⟨(fourL (ofN b)).toArray⟩ = ⟨(slL b).toArray⟩ := cat_str b (fourL (ofN b))
  have hf1 : ¬ 9223372036854775807 < (⟨b.toArray⟩ : ByteArray).size + (⟨(fourL (ofN b)).toArray⟩ : ByteArray).size := by
    rw [show (⟨b.toArray⟩ : ByteArray).size = b.length from by simp [ByteArray.size], show (⟨(fourL (ofN b)).toArray⟩ : ByteArray).size = 4 from by simp [ByteArray.size, fourL]]; omega
  have hf2 : ¬ 9223372036854775807 < n + (fourL (ofN b)).length := by rw [show (fourL (ofN b)).length = 4 from rfl]; omega
  have hf3 : ¬ 9223372036854775807 < b.length + (fourL (ofN b)).length := by rw [hbl]; exact hf2
  have hof := of_lt b
  obtain ⟨fz, hfz⟩ : ∃ fz, ofN b = fz := ⟨_, rfl⟩
  rw [hfz] at hfc hf1 hf2 hf3 hof
  generalize (⟨(slL b).toArray⟩ : ByteArray) = slv at *
  rcases h06 with h06 | h06
  ·
    go_upto_region 6 with fail
    clear h06
    refine region_any (by kernel_rfl) ?_
    change wpAny _ _ _ _ _ _ _ (World.drew _)
    have hd2 := HD.out.drew
    have hm2 := HM.out.drew
    generalize World.drew _ = w2 at *
    have hrd2 := HRD.out _ hm2
    have hcv : ∀ wS, Below w2.heap.size w2 wS → _ := fun wS hS => conv_str (hrd2.below hS)
    have HOF := of_ref P n pc w2.heap.size b w2 hrd2
    rw [hfz] at HOF
    have HFO := four_ref fz hof w2
    refine stage 10 ?_
    refine stage_read (i := 0) (v := ?_) rfl (by kernel_rfl) (by kernel_rfl) (by kernel_rfl) (by kernel_rfl) (by kernel_rfl) (by kernel_rfl) (fun _ _ _ h => h) (Or.inl ⟨by kernel_rfl, ?_⟩) ?_
    rotate_left
    · (intro wS hwS; obtain ⟨hcS, hfS, hhS⟩ := bcell hwS; go_simp; try (first | (with_reducible rfl) | rw [if_pos (by omega)] | rw [if_neg (by omega)]))
    try simp only [Act.put, List.getElem_toArray, List.getElem_cons_succ, List.getElem_cons_zero, List.setIfInBounds_toArray, List.set_cons_zero, List.set_cons_succ]
    refine stage_read (i := 1) (v := ?_) rfl (by kernel_rfl) (by kernel_rfl) (by kernel_rfl) (by kernel_rfl) (by kernel_rfl) (by kernel_rfl) (fun _ _ _ h => h) (Or.inl ⟨by kernel_rfl, ?_⟩) ?_
    rotate_left
    · (intro wS hwS; obtain ⟨hcS, hfS, hhS⟩ := bcell hwS; go_simp; try (first | (with_reducible rfl) | rw [if_pos (by omega)] | rw [if_neg (by omega)]))
    try simp only [Act.put, List.getElem_toArray, List.getElem_cons_succ, List.getElem_cons_zero, List.setIfInBounds_toArray, List.set_cons_zero, List.set_cons_succ]
    refine stage_read (i := 2) (v := ?_) rfl (by kernel_rfl) (by kernel_rfl) (by kernel_rfl) (by kernel_rfl) (by kernel_rfl) (by kernel_rfl) (fun _ _ _ h => h) (Or.inl ⟨by kernel_rfl, ?_⟩) ?_
    rotate_left
    · (intro wS hwS; obtain ⟨hcS, hfS, hhS⟩ := bcell hwS; go_simp; try (first | (with_reducible rfl) | rw [if_pos (by omega)] | rw [if_neg (by omega)]))
    try simp only [Act.put, List.getElem_toArray, List.getElem_cons_succ, List.getElem_cons_zero, List.setIfInBounds_toArray, List.set_cons_zero, List.set_cons_succ]
    refine stage_read (i := 3) (v := ?_) rfl (by kernel_rfl) (by kernel_rfl) (by kernel_rfl) (by kernel_rfl) (by kernel_rfl) (by kernel_rfl) (fun _ _ _ h => h) (Or.inl ⟨by kernel_rfl, ?_⟩) ?_
    rotate_left
    · (intro wS hwS; obtain ⟨hcS, hfS, hhS⟩ := bcell hwS; go_simp; try (first | (with_reducible rfl) | rw [if_pos (by omega)] | rw [if_neg (by omega)]))
    try simp only [Act.put, List.getElem_toArray, List.getElem_cons_succ, List.getElem_cons_zero, List.setIfInBounds_toArray, List.set_cons_zero, List.set_cons_succ]
    refine stage_read (i := 4) (v := ?_) rfl (by kernel_rfl) (by kernel_rfl) (by kernel_rfl) (by kernel_rfl) (by kernel_rfl) (by kernel_rfl) (fun _ _ _ h => h) (Or.inl ⟨by kernel_rfl, ?_⟩) ?_
    rotate_left
    · (intro wS hwS; obtain ⟨hcS, hfS, hhS⟩ := bcell hwS; go_simp; try (first | (with_reducible rfl) | rw [if_pos (by omega)] | rw [if_neg (by omega)]))
    try simp only [Act.put, List.getElem_toArray, List.getElem_cons_succ, List.getElem_cons_zero, List.setIfInBounds_toArray, List.set_cons_zero, List.set_cons_succ]
    refine stage_read (i := 5) (v := ?_) rfl (by kernel_rfl) (by kernel_rfl) (by kernel_rfl) (by kernel_rfl) (by kernel_rfl) (by kernel_rfl) (fun _ _ _ h => h) (Or.inl ⟨by kernel_rfl, ?_⟩) ?_
    rotate_left
    · (intro wS hwS; obtain ⟨hcS, hfS, hhS⟩ := bcell hwS; go_simp; try (first | (with_reducible rfl) | rw [if_pos (by omega)] | rw [if_neg (by omega)]))
    try simp only [Act.put, List.getElem_toArray, List.getElem_cons_succ, List.getElem_cons_zero, List.setIfInBounds_toArray, List.set_cons_zero, List.set_cons_succ]
    refine stage_one 6 (by kernel_rfl) rfl (by kernel_rfl) (fun K hK => ?_)
    go_simp
    refine HOF.mono ?_
    rintro z w3 ⟨rfl, rfl⟩
    refine hK.out _ _ ((Below.refl _ _)) ?_
    clear hK K
    try simp only [Act.put, List.getElem_toArray, List.getElem_cons_succ, List.getElem_cons_zero, List.setIfInBounds_toArray, List.set_cons_zero, List.set_cons_succ]

    refine stage_one 7 (by kernel_rfl) rfl (by kernel_rfl) (fun K hK => ?_)
    go_simp
    refine HFO.mono ?_
    rintro z w3 ⟨A3, rfl, hown3, hb3⟩
    refine hK.out _ _ (hb3) ?_
    clear hK K
    try simp only [Act.put, List.getElem_toArray, List.getElem_cons_succ, List.getElem_cons_zero, List.setIfInBounds_toArray, List.set_cons_zero, List.set_cons_succ]
    have hd3 := hd2.step hb3
    have hm3 := hm2.below hb3
    have hr3 := hown3.rd
    have hcv3 : ∀ wS, Below w3.heap.size w3 wS → _ := fun wS hS => conv_str (hr3.below hS)
    clear HOF HFO hcv hown3
    refine stage_read (i := 8) (v := ?_) rfl (by kernel_rfl) (by kernel_rfl) (by kernel_rfl) (by kernel_rfl) (by kernel_rfl) (by kernel_rfl) (fun _ _ _ h => h) (Or.inl ⟨by kernel_rfl, ?_⟩) ?_
    rotate_left
    · (intro wS hwS; obtain ⟨hcS, hfS, hhS⟩ := bcell hwS; go_simp; try (first | (with_reducible rfl) | rw [if_pos (by omega)] | rw [if_neg (by omega)]))
    try simp only [Act.put, List.getElem_toArray, List.getElem_cons_succ, List.getElem_cons_zero, List.setIfInBounds_toArray, List.set_cons_zero, List.set_cons_succ]
    refine stage_read (i := 9) (v := ?_) rfl (by kernel_rfl) (by kernel_rfl) (by kernel_rfl) (by kernel_rfl) (by kernel_rfl) (by kernel_rfl) (fun _ _ _ h => h) (Or.inl ⟨by kernel_rfl, ?_⟩) ?_
    rotate_left
    · (intro wS hwS; obtain ⟨hcS, hfS, hhS⟩ := bcell hwS; go_simp; try (first | (with_reducible rfl) | rw [if_pos (by omega)] | rw [if_neg (by omega)]))
    try simp only [Act.put, List.getElem_toArray, List.getElem_cons_succ, List.getElem_cons_zero, List.setIfInBounds_toArray, List.set_cons_zero, List.set_cons_succ]
    refine stage_end (by kernel_rfl) rfl (fun K hK => ?_)
    go_simp
    refine (HA1 _ hd3).mono ?_
    rintro z w4 ⟨rfl, hm4, hd4⟩
    refine hK.out _ _ ?_
    clear hK K
    try simp only [Act.put, List.getElem_toArray, List.getElem_cons_succ, List.getElem_cons_zero, List.setIfInBounds_toArray, List.set_cons_zero, List.set_cons_succ]
    first | refine stage 1000000 ?_ | skip
    refine stage_read (i := 11) (v := ?_) rfl (by kernel_rfl) (by kernel_rfl) (by kernel_rfl) (by kernel_rfl) (by kernel_rfl) (by kernel_rfl) (fun _ _ _ h => h) (Or.inl ⟨by kernel_rfl, ?_⟩) ?_
    rotate_left
    · (intro wS hwS; obtain ⟨hcS, hfS, hhS⟩ := bcell hwS; go_simp; try (first | (with_reducible rfl) | rw [if_pos (by omega)] | rw [if_neg (by omega)]))
    try simp only [Act.put, List.getElem_toArray, List.getElem_cons_succ, List.getElem_cons_zero, List.setIfInBounds_toArray, List.set_cons_zero, List.set_cons_succ]
    first | refine wpAnyT_done (by kernel_rfl) ?_ _ | refine wpAny_done (by kernel_rfl) ?_ _
    replace HM := Lib.hid (hm3.trans hm4)
    replace HD := Lib.hid hd4
    clear hd2 hm2 hrd2 hb3 hd3 hm3 hr3 hcv3 hm4 hd4 HA1
    by_cases hc : o1.code = 0
    rotate_left
    ·
      have hcb : (o1.code == 0) = false := by simpa using hc
      have hcn : (o1.code != 0) = true := by simpa using hc
      have HQ := Lib.hid hc
      clear hc
      go_wp2_with fail
      go_ret
      rw [show svO d sp nm b = o1 from HE.out.trans (sv3_1 HO1.out HQ.out)]
      exact ⟨rfl, HM.out, HD.out⟩
    have HC1 := Lib.hid hc
    obtain ⟨o2, ho2⟩ : ∃ o, ((d.out o0).out o1).syO sp = o := ⟨_, rfl⟩
    have HSY := rd_sy sp w4 HD.out hok1 (by omega)
    have hok2 := ok_sy hok1 sp hsps
    rw [ho2] at HSY hok2
    have HO2 := Lib.hid ho2
    clear ho2
    go_upto_region 10 with (((with_reducible refine (HSY).mono ?_); rintro z w5 ⟨rfl, hm5, hd5⟩))
    replace HM := Lib.hid (HM.out.trans hm5)
    replace HD := Lib.hid hd5
    clear hc HSY hm5 hd5
    by_cases hc : o2.code = 0
    rotate_left
    ·
      have hcb : (o2.code == 0) = false := by simpa using hc
      have hcn : (o2.code != 0) = true := by simpa using hc
      have HQ := Lib.hid hc
      clear hc
      go_wp2_with fail
      go_ret
      rw [show svO d sp nm b = o2 from HE.out.trans (sv3_2 HO1.out HC1.out HO2.out HQ.out)]
      exact ⟨rfl, HM.out, HD.out⟩
    have HC2 := Lib.hid hc
    obtain ⟨o3, ho3⟩ : ∃ o, (((d.out o0).out o1).out o2).reO sp nm = o := ⟨_, rfl⟩
    have HRE := rd_re sp nm w5 HD.out hok2 (by omega)
    rw [ho3] at HRE
    have HO3 := Lib.hid ho3
    clear ho3
    go_wp2_with (((with_reducible refine (HRE).mono ?_); rintro z w6 ⟨rfl, hm6, hd6⟩))
    go_ret
    rw [show svO d sp nm b = o3 from HE.out.trans (sv3_3 HO1.out HC1.out HO2.out HC2.out HO3.out)]
    exact ⟨rfl, HM.out.trans hm6, hd6⟩
  ·
    go_upto_region 6 with fail
    clear h06
    refine region_any (by kernel_rfl) ?_
    change wpAny _ _ _ _ _ _ _ (World.drew _)
    have hd2 := HD.out.drew
    have hm2 := HM.out.drew
    generalize World.drew _ = w2 at *
    have hrd2 := HRD.out _ hm2
    have hcv : ∀ wS, Below w2.heap.size w2 wS → _ := fun wS hS => conv_str (hrd2.below hS)
    have HOF := of_ref P n pc w2.heap.size b w2 hrd2
    rw [hfz] at HOF
    have HFO := four_ref fz hof w2
    refine stage 10 ?_
    refine stage_read (i := 0) (v := ?_) rfl (by kernel_rfl) (by kernel_rfl) (by kernel_rfl) (by kernel_rfl) (by kernel_rfl) (by kernel_rfl) (fun _ _ _ h => h) (Or.inl ⟨by kernel_rfl, ?_⟩) ?_
    rotate_left
    · (intro wS hwS; obtain ⟨hcS, hfS, hhS⟩ := bcell hwS; go_simp; try (first | (with_reducible rfl) | rw [if_pos (by omega)] | rw [if_neg (by omega)]))
    try simp only [Act.put, List.getElem_toArray, List.getElem_cons_succ, List.getElem_cons_zero, List.setIfInBounds_toArray, List.set_cons_zero, List.set_cons_succ]
    refine stage_read (i := 1) (v := ?_) rfl (by kernel_rfl) (by kernel_rfl) (by kernel_rfl) (by kernel_rfl) (by kernel_rfl) (by kernel_rfl) (fun _ _ _ h => h) (Or.inl ⟨by kernel_rfl, ?_⟩) ?_
    rotate_left
    · (intro wS hwS; obtain ⟨hcS, hfS, hhS⟩ := bcell hwS; go_simp; try (first | (with_reducible rfl) | rw [if_pos (by omega)] | rw [if_neg (by omega)]))
    try simp only [Act.put, List.getElem_toArray, List.getElem_cons_succ, List.getElem_cons_zero, List.setIfInBounds_toArray, List.set_cons_zero, List.set_cons_succ]
    refine stage_read (i := 2) (v := ?_) rfl (by kernel_rfl) (by kernel_rfl) (by kernel_rfl) (by kernel_rfl) (by kernel_rfl) (by kernel_rfl) (fun _ _ _ h => h) (Or.inl ⟨by kernel_rfl, ?_⟩) ?_
    rotate_left
    · (intro wS hwS; obtain ⟨hcS, hfS, hhS⟩ := bcell hwS; go_simp; try (first | (with_reducible rfl) | rw [if_pos (by omega)] | rw [if_neg (by omega)]))
    try simp only [Act.put, List.getElem_toArray, List.getElem_cons_succ, List.getElem_cons_zero, List.setIfInBounds_toArray, List.set_cons_zero, List.set_cons_succ]
    refine stage_read (i := 3) (v := ?_) rfl (by kernel_rfl) (by kernel_rfl) (by kernel_rfl) (by kernel_rfl) (by kernel_rfl) (by kernel_rfl) (fun _ _ _ h => h) (Or.inl ⟨by kernel_rfl, ?_⟩) ?_
    rotate_left
    · (intro wS hwS; obtain ⟨hcS, hfS, hhS⟩ := bcell hwS; go_simp; try (first | (with_reducible rfl) | rw [if_pos (by omega)] | rw [if_neg (by omega)]))
    try simp only [Act.put, List.getElem_toArray, List.getElem_cons_succ, List.getElem_cons_zero, List.setIfInBounds_toArray, List.set_cons_zero, List.set_cons_succ]
    refine stage_read (i := 4) (v := ?_) rfl (by kernel_rfl) (by kernel_rfl) (by kernel_rfl) (by kernel_rfl) (by kernel_rfl) (by kernel_rfl) (fun _ _ _ h => h) (Or.inl ⟨by kernel_rfl, ?_⟩) ?_
    rotate_left
    · (intro wS hwS; obtain ⟨hcS, hfS, hhS⟩ := bcell hwS; go_simp; try (first | (with_reducible rfl) | rw [if_pos (by omega)] | rw [if_neg (by omega)]))
    try simp only [Act.put, List.getElem_toArray, List.getElem_cons_succ, List.getElem_cons_zero, List.setIfInBounds_toArray, List.set_cons_zero, List.set_cons_succ]
    refine stage_read (i := 5) (v := ?_) rfl (by kernel_rfl) (by kernel_rfl) (by kernel_rfl) (by kernel_rfl) (by kernel_rfl) (by kernel_rfl) (fun _ _ _ h => h) (Or.inl ⟨by kernel_rfl, ?_⟩) ?_
    rotate_left
    · (intro wS hwS; obtain ⟨hcS, hfS, hhS⟩ := bcell hwS; go_simp; try (first | (with_reducible rfl) | rw [if_pos (by omega)] | rw [if_neg (by omega)]))
    try simp only [Act.put, List.getElem_toArray, List.getElem_cons_succ, List.getElem_cons_zero, List.setIfInBounds_toArray, List.set_cons_zero, List.set_cons_succ]
    refine stage_one 6 (by kernel_rfl) rfl (by kernel_rfl) (fun K hK => ?_)
    go_simp
    refine HOF.mono ?_
    rintro z w3 ⟨rfl, rfl⟩
    refine hK.out _ _ ((Below.refl _ _)) ?_
    clear hK K
    try simp only [Act.put, List.getElem_toArray, List.getElem_cons_succ, List.getElem_cons_zero, List.setIfInBounds_toArray, List.set_cons_zero, List.set_cons_succ]

    refine stage_one 7 (by kernel_rfl) rfl (by kernel_rfl) (fun K hK => ?_)
    go_simp
    refine HFO.mono ?_
    rintro z w3 ⟨A3, rfl, hown3, hb3⟩
    refine hK.out _ _ (hb3) ?_
    clear hK K
    try simp only [Act.put, List.getElem_toArray, List.getElem_cons_succ, List.getElem_cons_zero, List.setIfInBounds_toArray, List.set_cons_zero, List.set_cons_succ]
    have hd3 := hd2.step hb3
    have hm3 := hm2.below hb3
    have hr3 := hown3.rd
    have hcv3 : ∀ wS, Below w3.heap.size w3 wS → _ := fun wS hS => conv_str (hr3.below hS)
    clear HOF HFO hcv hown3
    refine stage_read (i := 8) (v := ?_) rfl (by kernel_rfl) (by kernel_rfl) (by kernel_rfl) (by kernel_rfl) (by kernel_rfl) (by kernel_rfl) (fun _ _ _ h => h) (Or.inl ⟨by kernel_rfl, ?_⟩) ?_
    rotate_left
    · (intro wS hwS; obtain ⟨hcS, hfS, hhS⟩ := bcell hwS; go_simp; try (first | (with_reducible rfl) | rw [if_pos (by omega)] | rw [if_neg (by omega)]))
    try simp only [Act.put, List.getElem_toArray, List.getElem_cons_succ, List.getElem_cons_zero, List.setIfInBounds_toArray, List.set_cons_zero, List.set_cons_succ]
    refine stage_read (i := 9) (v := ?_) rfl (by kernel_rfl) (by kernel_rfl) (by kernel_rfl) (by kernel_rfl) (by kernel_rfl) (by kernel_rfl) (fun _ _ _ h => h) (Or.inl ⟨by kernel_rfl, ?_⟩) ?_
    rotate_left
    · (intro wS hwS; obtain ⟨hcS, hfS, hhS⟩ := bcell hwS; go_simp; try (first | (with_reducible rfl) | rw [if_pos (by omega)] | rw [if_neg (by omega)]))
    try simp only [Act.put, List.getElem_toArray, List.getElem_cons_succ, List.getElem_cons_zero, List.setIfInBounds_toArray, List.set_cons_zero, List.set_cons_succ]
    refine stage_end (by kernel_rfl) rfl (fun K hK => ?_)
    go_simp
    refine (HA1 _ hd3).mono ?_
    rintro z w4 ⟨rfl, hm4, hd4⟩
    refine hK.out _ _ ?_
    clear hK K
    try simp only [Act.put, List.getElem_toArray, List.getElem_cons_succ, List.getElem_cons_zero, List.setIfInBounds_toArray, List.set_cons_zero, List.set_cons_succ]
    first | refine stage 1000000 ?_ | skip
    refine stage_read (i := 11) (v := ?_) rfl (by kernel_rfl) (by kernel_rfl) (by kernel_rfl) (by kernel_rfl) (by kernel_rfl) (by kernel_rfl) (fun _ _ _ h => h) (Or.inl ⟨by kernel_rfl, ?_⟩) ?_
    rotate_left
    · (intro wS hwS; obtain ⟨hcS, hfS, hhS⟩ := bcell hwS; go_simp; try (first | (with_reducible rfl) | rw [if_pos (by omega)] | rw [if_neg (by omega)]))
    try simp only [Act.put, List.getElem_toArray, List.getElem_cons_succ, List.getElem_cons_zero, List.setIfInBounds_toArray, List.set_cons_zero, List.set_cons_succ]
    first | refine wpAnyT_done (by kernel_rfl) ?_ _ | refine wpAny_done (by kernel_rfl) ?_ _
    replace HM := Lib.hid (hm3.trans hm4)
    replace HD := Lib.hid hd4
    clear hd2 hm2 hrd2 hb3 hd3 hm3 hr3 hcv3 hm4 hd4 HA1
    by_cases hc : o1.code = 0
    rotate_left
    ·
      have hcb : (o1.code == 0) = false := by simpa using hc
      have hcn : (o1.code != 0) = true := by simpa using hc
      have HQ := Lib.hid hc
      clear hc
      go_wp2_with fail
      go_ret
      rw [show svO d sp nm b = o1 from HE.out.trans (sv3_1 HO1.out HQ.out)]
      exact ⟨rfl, HM.out, HD.out⟩
    have HC1 := Lib.hid hc
    obtain ⟨o2, ho2⟩ : ∃ o, ((d.out o0).out o1).syO sp = o := ⟨_, rfl⟩
    have HSY := rd_sy sp w4 HD.out hok1 (by omega)
    have hok2 := ok_sy hok1 sp hsps
    rw [ho2] at HSY hok2
    have HO2 := Lib.hid ho2
    clear ho2
    go_upto_region 10 with (((with_reducible refine (HSY).mono ?_); rintro z w5 ⟨rfl, hm5, hd5⟩))
    replace HM := Lib.hid (HM.out.trans hm5)
    replace HD := Lib.hid hd5
    clear hc HSY hm5 hd5
    by_cases hc : o2.code = 0
    rotate_left
    ·
      have hcb : (o2.code == 0) = false := by simpa using hc
      have hcn : (o2.code != 0) = true := by simpa using hc
      have HQ := Lib.hid hc
      clear hc
      go_wp2_with fail
      go_ret
      rw [show svO d sp nm b = o2 from HE.out.trans (sv3_2 HO1.out HC1.out HO2.out HQ.out)]
      exact ⟨rfl, HM.out, HD.out⟩
    have HC2 := Lib.hid hc
    obtain ⟨o3, ho3⟩ : ∃ o, (((d.out o0).out o1).out o2).reO sp nm = o := ⟨_, rfl⟩
    have HRE := rd_re sp nm w5 HD.out hok2 (by omega)
    rw [ho3] at HRE
    have HO3 := Lib.hid ho3
    clear ho3
    go_wp2_with (((with_reducible refine (HRE).mono ?_); rintro z w6 ⟨rfl, hm6, hd6⟩))
    go_ret
    rw [show svO d sp nm b = o3 from HE.out.trans (sv3_3 HO1.out HC1.out HO2.out HC2.out HO3.out)]
    exact ⟨rfl, HM.out.trans hm6, hd6⟩
end
end Go.Proofs.Ytmoijbknjadeeaa
