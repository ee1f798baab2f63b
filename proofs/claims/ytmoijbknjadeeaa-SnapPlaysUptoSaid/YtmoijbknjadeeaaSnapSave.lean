
/- Chapter 8: Save of the program. -/
import Derived.Test.YtmoijbknjadeeaaSnap
namespace Go.Proofs.Ytmoijbknjadeeaa
set_option linter.unusedVariables false
set_option linter.unusedSimpArgs false
open Go.RowKit
section
variable {w w' : World} {B0 ga gs gn gp m c gd bd N n pc M K : Nat} {A P : Option Addr} {fs : List Value} {sp nm : ByteArray} {b : List UInt8} {d : PD}
theorem pd_names (w : World) (h : IsD w gd bd N d) (hN : N ≤ 1000000) :
    Calls Try.prog 26 #[.pointer (some ⟨gd, 0, none⟩)] w fun x w' => ∃ A c, x = .returned (.slice A d.fs.length c) ∧ Rd w' w'.heap.size 1 A d.fs.length c ((d.fs.map Fi.k).map Value.string) ∧ Below w.heap.size w w' := by
  obtain ⟨l, h1, h2⟩ := h
  have hl := rows_len h1
  refine (names_any w h2 hN).mono ?_
  rintro x w' ⟨A, c, rfl, hown, hb⟩
  refine ⟨A, c, by rw [hl], ?_, hb⟩
  have e : namesL l = (d.fs.map Fi.k).map Value.string := by unfold namesL; rw [← h1, List.map_map, List.map_map]; rfl
  rw [← e, ← hl]
  exact Rd.of_own hown
theorem mem_k {l : List Fi} {k : ByteArray} : (findF l k).isSome = true ↔ k ∈ l.map Fi.k := by
  unfold findF
  rw [List.find?_isSome, List.mem_map]
  constructor
  · rintro ⟨x, hx, h⟩
    exact ⟨x, hx, by simpa using h⟩
  · rintro ⟨x, hx, h⟩
    exact ⟨x, hx, by simpa using h⟩
def SV (w w' : World) (gd bd N : Nat) (d : PD) (o : Out) (x : Ending) : Prop := x = .returned (.int .i64 o.code) ∧ Mod (fun i _ => i = gd ∨ i = bd) w w' ∧ IsD w' gd bd (N + 4) (d.out o)
theorem own_cell {w : World} {base m c g j : Nat} {fs : List Value} {v : Value} (h : OwnF w base (some ⟨g, 0, none⟩) m c fs) (hj : fs[j]? = some v) : w.cell? ⟨g, j, none⟩ = some v := by
  have h1 := Rd.of_own h
  have hlen : j < fs.length := (List.getElem?_eq_some_iff.1 hj).1
  have hl := h1.len
  have hle := h1.le
  obtain ⟨g2, off, e, _, hc⟩ := h1.cells (by omega)
  injection e with e
  injection e with e1 e2
  subst e1 e2
  have := hc j v hj
  rw [Nat.zero_add] at this
  exact this
theorem own_form {w : World} {base m c : Nat} {A : Option Addr} {fs : List Value} (h : OwnF w base A m c fs) (hm : 0 < m) : ∃ g, A = some ⟨g, 0, none⟩ := by
  rcases h.2 with ⟨_, e⟩ | ⟨g, cap, cur, e1, _⟩
  · omega
  · injection e1 with e1
    exact ⟨g, e1⟩
theorem dout_any (d : PD) (o1 o2 : Out) : (d.out o1).out o2 = d.out o2 := rfl
theorem sv3_1 {D : PD} {o1 : Out} (h : D.apO sp (slL b) = o1) (hc : ¬ o1.code = 0) : sv3 D sp nm b = o1 := by unfold sv3; rw [h, if_neg hc]
theorem sv3_2 {D : PD} {o1 o2 : Out} (h : D.apO sp (slL b) = o1) (hc : o1.code = 0) (h2 : (D.out o1).syO sp = o2) (hc2 : ¬ o2.code = 0) : sv3 D sp nm b = o2 := by unfold sv3 sv2; rw [h, if_pos hc, h2, if_neg hc2]
theorem sv3_3 {D : PD} {o1 o2 o3 : Out} (h : D.apO sp (slL b) = o1) (hc : o1.code = 0) (h2 : (D.out o1).syO sp = o2) (hc2 : o2.code = 0) (h3 : ((D.out o1).out o2).reO sp nm = o3) : sv3 D sp nm b = o3 := by unfold sv3 sv2 sv1; rw [h, if_pos hc, h2, if_pos hc2, h3]
theorem svO_0 {o0 : Out} (h : d.rmO sp = o0) (hc : ¬ o0.code = 0) (h6 : ¬ o0.code = 6) : svO d sp nm b = o0 := by unfold svO; rw [h, if_neg (by intro q; rcases q with q | q; exact hc q; exact h6 q)]
set_option maxRecDepth 100000 in
set_option maxHeartbeats 8000000 in
theorem save_any (hnm1 : 1 ≤ nm.size) (hnm : nm.size + 1 ≤ maxLen) (w : World) (hd : IsD w gd bd N d) (ho : d.Ok M K) (hM : M ≤ 10000000) (hK : K ≤ 100000) (hN : N ≤ 900000) (hr : RdB w w.heap.size P n pc b) (hn : n ≤ 1000000) :
    Calls Try.prog 43 #[.pointer (some ⟨gd, 0, none⟩), .string nm, .slice P n pc] w fun x w' => SV w w' gd bd N d (svO d (spF nm) nm b) x := by
  have he := emptyS_iff nm
  rw [decide_eq_true hnm1] at he
  have HSP := fun v => spare_any nm hnm v
  have hsps : (spF nm).size ≤ maxLen := by rw [spF_size]; exact hnm
  generalize spF nm = sp at *
  have hnms : nm.size ≤ maxLen := by omega
  obtain ⟨hA, hN', hP, hb1⟩ := three_at w 24 [.pointer (some ⟨gd, 0, none⟩)] 9 [.string nm] 27 [.slice P n pc]
  have hd1 := hd.step hb1
  have hr1 := (hr.below hb1).more hb1.size
  have hm1 : Mod (fun i _ => i = gd ∨ i = bd) w _ := (Mod.refl _ w).below hb1
  clear hd hr hb1
  go_enter Try.func43, Try.ntmps43
  go_upto_region 1 with fail
  generalize World.alloc (World.alloc (World.alloc w _) _) _ = w1 at *
  generalize w.heap.size + 2 = gp at *
  generalize w.heap.size + 1 = gn at *
  generalize w.heap.size = ga at *
  obtain ⟨a0, af⟩ := at1 hA
  obtain ⟨n0, nf⟩ := at1 hN'
  go_upto_region 6 with (((with_reducible refine ((HSP w1)).mono ?_); rintro z v ⟨rfl, rfl⟩))
  obtain ⟨hS, hb2⟩ := one_at w1 9 [.string sp]
  clear a0 af n0 nf HSP
  replace hA := hA.step hb2
  replace hN' := hN'.step hb2
  replace hP := hP.step hb2
  replace hd1 := hd1.step hb2
  replace hr1 := (hr1.below hb2).more hb2.size
  replace hm1 := hm1.below hb2
  clear hb2
  generalize World.alloc w1 _ = w2 at *
  generalize w1.heap.size = gs at *
  go_upto_region 7 with fail
  obtain ⟨hR, hb3⟩ := one_at w2 67 [sF1 ga gs gp, sF2 ga gs, sF3 ga gs gn]
  have hK3 : SvK _ 0 ga gs gn gp (some ⟨w2.heap.size, 0, none⟩) 3 3 [sF1 ga gs gp, sF2 ga gs, sF3 ga gs gn] gd sp nm P n pc b := ⟨hA.step hb3, hS.step hb3, hN'.step hb3, hP.step hb3, own_lit6 hR (n := 3) (s := 1) rfl (by simp [maxLen]) 0 (Nat.zero_le _), (hr1.below hb3).more hb3.size⟩
  replace hd1 := hd1.step hb3
  replace hm1 := hm1.below hb3
  clear hA hS hN' hP hr1 hb3
  unfold sF1 sF2 sF3 at *
  generalize World.alloc w2 _ = w3 at *
  generalize w2.heap.size = gr at *
  refine region_any (by kernel_rfl) ?_
  change wpAny _ _ _ _ _ _ _ (World.drew _)
  replace hK3 := hK3.step (Below.drew (Below.refl _ w3))
  replace hd1 := hd1.drew
  replace hm1 := hm1.drew
  replace hR := At.drew hR
  generalize World.drew _ = w4 at *
  obtain ⟨a0, af⟩ := at1 hK3.bA
  obtain ⟨s0, sf⟩ := at1 hK3.bS
  have la := hK3.bA.lt
  have ls := hK3.bS.lt
  refine stage 100000 ?_
  refine stage_read (i := 0) (v := ?_) rfl (by kernel_rfl) (by kernel_rfl) (by kernel_rfl) (by kernel_rfl) (by kernel_rfl) (by kernel_rfl) (fun _ _ _ h => h) (Or.inl ⟨by kernel_rfl, ?_⟩) ?_
  rotate_left
  · (intro wS hwS; obtain ⟨hcS, hfS, hhS⟩ := bcell hwS; go_simp; try (first | (with_reducible rfl) | rw [if_pos (by omega)] | rw [if_neg (by omega)]))
  try simp only [Act.put, List.getElem_toArray, List.getElem_cons_succ, List.getElem_cons_zero, List.setIfInBounds_toArray, List.set_cons_zero, List.set_cons_succ]
  refine stage_read (i := 2) (v := ?_) rfl (by kernel_rfl) (by kernel_rfl) (by kernel_rfl) (by kernel_rfl) (by kernel_rfl) (by kernel_rfl) (fun _ _ _ h => h) (Or.inl ⟨by kernel_rfl, ?_⟩) ?_
  rotate_left
  · (intro wS hwS; obtain ⟨hcS, hfS, hhS⟩ := bcell hwS; go_simp; try (first | (with_reducible rfl) | rw [if_pos (by omega)] | rw [if_neg (by omega)]))
  try simp only [Act.put, List.getElem_toArray, List.getElem_cons_succ, List.getElem_cons_zero, List.setIfInBounds_toArray, List.set_cons_zero, List.set_cons_succ]
  refine stage_one 1 (by kernel_rfl) rfl (by kernel_rfl) (fun K hK => ?_)
  go_simp
  refine (pd_names w4 hd1 (by omega)).mono ?_
  rintro z w5 ⟨A5, c5, rfl, hrd5, hb5⟩
  refine hK.out _ _ (hb5) ?_
  clear hK K
  try simp only [Act.put, List.getElem_toArray, List.getElem_cons_succ, List.getElem_cons_zero, List.setIfInBounds_toArray, List.set_cons_zero, List.set_cons_succ]
  replace hK3 := hK3.step hb5
  replace hd1 := hd1.step hb5
  replace hm1 := hm1.below hb5
  replace hR := At.step hR hb5
  clear hb5 a0 af s0 sf la ls

  obtain ⟨q, hq⟩ : ∃ q, (findF d.fs sp).isSome = q := ⟨_, rfl⟩
  refine stage_one 3 (by kernel_rfl) rfl (by kernel_rfl) (fun K hK => ?_)
  go_simp
  refine (contains_tx q sp w5 hrd5 (by rw [List.length_map]) (by rw [← hq]; exact mem_k)).mono ?_
  rintro z w6 ⟨rfl, rfl⟩
  refine hK.out _ _ ((Below.refl _ _)) ?_
  clear hK K
  try simp only [Act.put, List.getElem_toArray, List.getElem_cons_succ, List.getElem_cons_zero, List.setIfInBounds_toArray, List.set_cons_zero, List.set_cons_succ]
  first | refine wpAnyT_done (by kernel_rfl) ?_ _ | refine wpAny_done (by kernel_rfl) ?_ _
  have HK := Lib.hid hK3
  have HD := Lib.hid hd1
  have HM := Lib.hid hm1
  have HR := Lib.hid hR
  clear hK3 hd1 hm1 hR hrd5
  cases q with
  | false =>
    have hrm : d.rmO sp = ⟨6, d.fs, d.lost, d.left⟩ := by unfold PD.rmO rmO goO; rw [hq]; rfl
    have hsv : svO d sp nm b = sv3 d sp nm b := by unfold svO; rw [hrm, if_pos (.inr rfl)]; rfl
    have HE := Lib.hid hsv
    have hok0 : d.Ok M K := ho
    clear hsv hrm hq HR ho
    go_wp2_with fail
    refine wp_loop_rounds 4 ?_
    obtain ⟨o1, ho1⟩ : ∃ o, (d).apO sp (slL b) = o := ⟨_, rfl⟩
    have hok1 := ok_ap hok0 sp hsps (slL b)
    rw [ho1] at hok1
    have HO1 := Lib.hid ho1
    clear ho1
    rw [rounds_succ]
    have ec := own_cell HK.out.row (j := 0) rfl
    have HC := sf1_any _ HK.out HD.out hok0 (by omega) hsps hn (by omega)
    rw [HO1.out] at HC
    have HD1 := Lib.hid HD.out
    go_upto_region 13 with (((with_reducible refine (HC).mono ?_); rintro z w11 ⟨rfl, hm, hd⟩))
    clear HC ec
    replace HK := Lib.hid (HK.out.dk HD1.out hm)
    replace HM := Lib.hid (HM.out.trans hm)
    replace HD := Lib.hid hd
    clear HD1 hm hd
    by_cases hc : o1.code = 0
    rotate_left
    ·
      have hcb : (o1.code == 0) = false := by simpa using hc
      have hcn : (o1.code != 0) = true := by simpa using hc
      have HQ := Lib.hid hc
      clear hc
      go_wp2_with fail
      go_ret
      rw [show svO d sp nm b = o1 from HE.out.trans (sv3_1 HO1.out HQ.out)]
      exact ⟨rfl, HM.out, HD.out.more (by omega)⟩
    have HC1 := Lib.hid hc
    go_wp2_with fail
    clear hc
    obtain ⟨o2, ho2⟩ : ∃ o, ((d).out o1).syO sp = o := ⟨_, rfl⟩
    have HO2 := Lib.hid ho2
    clear ho2
    rw [rounds_succ]
    have ec := own_cell HK.out.row (j := 1) rfl
    have HC := sf2_any _ HK.out HD.out hsps (by omega)
    rw [HO2.out] at HC
    have HD1 := Lib.hid HD.out
    go_upto_region 13 with (((with_reducible refine (HC).mono ?_); rintro z w12 ⟨rfl, hm, hd⟩))
    clear HC ec
    replace HK := Lib.hid (HK.out.dk HD1.out hm)
    replace HM := Lib.hid (HM.out.trans hm)
    replace HD := Lib.hid hd
    clear HD1 hm hd
    by_cases hc : o2.code = 0
    rotate_left
    ·
      have hcb : (o2.code == 0) = false := by simpa using hc
      have hcn : (o2.code != 0) = true := by simpa using hc
      have HQ := Lib.hid hc
      clear hc
      go_wp2_with fail
      go_ret
      rw [show svO d sp nm b = o2 from HE.out.trans (sv3_2 HO1.out HC1.out HO2.out HQ.out)]
      exact ⟨rfl, HM.out, HD.out.more (by omega)⟩
    have HC2 := Lib.hid hc
    go_wp2_with fail
    clear hc
    obtain ⟨o3, ho3⟩ : ∃ o, (((d).out o1).out o2).reO sp nm = o := ⟨_, rfl⟩
    have HO3 := Lib.hid ho3
    clear ho3
    rw [rounds_succ]
    have ec := own_cell HK.out.row (j := 2) rfl
    have HC := sf3_any _ HK.out HD.out hsps hnms (by omega)
    rw [HO3.out] at HC
    have HD1 := Lib.hid HD.out
    go_upto_region 13 with (((with_reducible refine (HC).mono ?_); rintro z w13 ⟨rfl, hm, hd⟩))
    clear HC ec
    replace HK := Lib.hid (HK.out.dk HD1.out hm)
    replace HM := Lib.hid (HM.out.trans hm)
    replace HD := Lib.hid hd
    clear HD1 hm hd
    by_cases hc : o3.code = 0
    rotate_left
    ·
      have hcb : (o3.code == 0) = false := by simpa using hc
      have hcn : (o3.code != 0) = true := by simpa using hc
      have HQ := Lib.hid hc
      clear hc
      go_wp2_with fail
      go_ret
      rw [show svO d sp nm b = o3 from HE.out.trans (sv3_3 HO1.out HC1.out HO2.out HC2.out HO3.out)]
      exact ⟨rfl, HM.out, HD.out.more (by omega)⟩
    have HC3 := Lib.hid hc
    go_wp2_with fail
    clear hc
    rw [rounds_succ]
    go_wp2_with fail
    go_ret
    rw [show svO d sp nm b = o3 from HE.out.trans (sv3_3 HO1.out HC1.out HO2.out HC2.out HO3.out)]
    exact ⟨by rw [HC3.out]; rfl, HM.out, HD.out.more (by omega)⟩
  | true =>
    obtain ⟨o0, ho0⟩ : ∃ o, d.rmO sp = o := ⟨_, rfl⟩
    have hok0 := ok_rm ho sp
    rw [ho0] at hok0
    have h06 : ¬ o0.code = 6 := by
      rw [← ho0]
      unfold PD.rmO rmO goO
      rw [if_neg (by rw [hq]; simp), if_neg (by simp)]
      unfold wrP
      cases d.lost <;> cases d.armed <;> simp <;> split <;> simp
    have HO0 := Lib.hid ho0
    have H06 := Lib.hid h06
    clear ho0 h06 hq
    obtain ⟨h9, hb9⟩ := one_at w5 67 [sF4 ga gs]
    have HI := insert_fn _ (HR.out.step hb9) h9 (by simp [Value.oneCell']) (by simp [Value.oneCell', sF4])
    have HK9 := Lib.hid (HK.out.step hb9)
    have HD9 := Lib.hid (HD.out.step hb9)
    have HM9 := Lib.hid (HM.out.below hb9)
    clear HK HD HM HR h9 hb9
    unfold sF4 at *
    go_upto_region 9 with (((with_reducible refine (HI).mono ?_); rintro z w6 ⟨A6, c6, rfl, hown6, hb6⟩))
    have hk9 := HK9.out.step hb6
    obtain ⟨g6, eA⟩ := own_form hown6 (by omega)
    subst eA
    have HK := Lib.hid (show SvK w6 _ ga gs gn gp (some ⟨g6, 0, none⟩) 4 c6 _ gd sp nm P n pc b from ⟨hk9.bA, hk9.bS, hk9.bN, hk9.bP, hown6, hk9.rd⟩)
    have HD := Lib.hid (HD9.out.step hb6)
    have HM := Lib.hid (HM9.out.below hb6)
    have hle6 := (Rd.of_own hown6).le
    clear HI HK9 HD9 HM9 hk9 hown6 hb6
    go_wp2_with fail
    refine wp_loop_rounds 5 ?_
    rw [rounds_succ]
    have ec := own_cell HK.out.row (j := 0) rfl
    have HC := sf4_any _ HK.out HD.out hsps (by omega)
    rw [HO0.out] at HC
    have HD1 := Lib.hid HD.out
    go_upto_region 13 with (((with_reducible refine (HC).mono ?_); rintro z w10 ⟨rfl, hm, hd⟩))
    clear HC ec
    replace HK := Lib.hid (HK.out.dk HD1.out hm)
    replace HM := Lib.hid (HM.out.trans hm)
    replace HD := Lib.hid hd
    clear HD1 hm hd
    by_cases hc : o0.code = 0
    rotate_left
    ·
      have hcb : (o0.code == 0) = false := by simpa using hc
      have hcn : (o0.code != 0) = true := by simpa using hc
      have HQ := Lib.hid hc
      clear hc
      go_wp2_with fail
      go_ret
      rw [show svO d sp nm b = o0 from svO_0 HO0.out HQ.out H06.out]
      exact ⟨rfl, HM.out, HD.out.more (by omega)⟩
    have HC0 := Lib.hid hc
    have hsv : svO d sp nm b = sv3 (d.out o0) sp nm b := by unfold svO; rw [HO0.out, if_pos (.inl hc)]
    have HE := Lib.hid hsv
    clear hsv
    go_wp2_with fail
    clear hc
    obtain ⟨o1, ho1⟩ : ∃ o, (d.out o0).apO sp (slL b) = o := ⟨_, rfl⟩
    have hok1 := ok_ap hok0 sp hsps (slL b)
    rw [ho1] at hok1
    have HO1 := Lib.hid ho1
    clear ho1
    rw [rounds_succ]
    have ec := own_cell HK.out.row (j := 1) rfl
    have HC := sf1_any _ HK.out HD.out hok0 (by omega) hsps hn (by omega)
    rw [HO1.out] at HC
    have HD1 := Lib.hid HD.out
    go_upto_region 13 with (((with_reducible refine (HC).mono ?_); rintro z w11 ⟨rfl, hm, hd⟩))
    clear HC ec
    replace HK := Lib.hid (HK.out.dk HD1.out hm)
    replace HM := Lib.hid (HM.out.trans hm)
    replace HD := Lib.hid hd
    clear HD1 hm hd
    by_cases hc : o1.code = 0
    rotate_left
    ·
      have hcb : (o1.code == 0) = false := by simpa using hc
      have hcn : (o1.code != 0) = true := by simpa using hc
      have HQ := Lib.hid hc
      clear hc
      go_wp2_with fail
      go_ret
      rw [show svO d sp nm b = o1 from HE.out.trans (sv3_1 HO1.out HQ.out)]
      exact ⟨rfl, HM.out, HD.out.more (by omega)⟩
    have HC1 := Lib.hid hc
    go_wp2_with fail
    clear hc
    obtain ⟨o2, ho2⟩ : ∃ o, ((d.out o0).out o1).syO sp = o := ⟨_, rfl⟩
    have HO2 := Lib.hid ho2
    clear ho2
    rw [rounds_succ]
    have ec := own_cell HK.out.row (j := 2) rfl
    have HC := sf2_any _ HK.out HD.out hsps (by omega)
    rw [HO2.out] at HC
    have HD1 := Lib.hid HD.out
    go_upto_region 13 with (((with_reducible refine (HC).mono ?_); rintro z w12 ⟨rfl, hm, hd⟩))
    clear HC ec
    replace HK := Lib.hid (HK.out.dk HD1.out hm)
    replace HM := Lib.hid (HM.out.trans hm)
    replace HD := Lib.hid hd
    clear HD1 hm hd
    by_cases hc : o2.code = 0
    rotate_left
    ·
      have hcb : (o2.code == 0) = false := by simpa using hc
      have hcn : (o2.code != 0) = true := by simpa using hc
      have HQ := Lib.hid hc
      clear hc
      go_wp2_with fail
      go_ret
      rw [show svO d sp nm b = o2 from HE.out.trans (sv3_2 HO1.out HC1.out HO2.out HQ.out)]
      exact ⟨rfl, HM.out, HD.out.more (by omega)⟩
    have HC2 := Lib.hid hc
    go_wp2_with fail
    clear hc
    obtain ⟨o3, ho3⟩ : ∃ o, (((d.out o0).out o1).out o2).reO sp nm = o := ⟨_, rfl⟩
    have HO3 := Lib.hid ho3
    clear ho3
    rw [rounds_succ]
    have ec := own_cell HK.out.row (j := 3) rfl
    have HC := sf3_any _ HK.out HD.out hsps hnms (by omega)
    rw [HO3.out] at HC
    have HD1 := Lib.hid HD.out
    go_upto_region 13 with (((with_reducible refine (HC).mono ?_); rintro z w13 ⟨rfl, hm, hd⟩))
    clear HC ec
    replace HK := Lib.hid (HK.out.dk HD1.out hm)
    replace HM := Lib.hid (HM.out.trans hm)
    replace HD := Lib.hid hd
    clear HD1 hm hd
    by_cases hc : o3.code = 0
    rotate_left
    ·
      have hcb : (o3.code == 0) = false := by simpa using hc
      have hcn : (o3.code != 0) = true := by simpa using hc
      have HQ := Lib.hid hc
      clear hc
      go_wp2_with fail
      go_ret
      rw [show svO d sp nm b = o3 from HE.out.trans (sv3_3 HO1.out HC1.out HO2.out HC2.out HO3.out)]
      exact ⟨rfl, HM.out, HD.out.more (by omega)⟩
    have HC3 := Lib.hid hc
    go_wp2_with fail
    clear hc
    rw [rounds_succ]
    go_wp2_with fail
    go_ret
    rw [show svO d sp nm b = o3 from HE.out.trans (sv3_3 HO1.out HC1.out HO2.out HC2.out HO3.out)]
    exact ⟨by rw [HC3.out]; rfl, HM.out, HD.out.more (by omega)⟩
end
end Go.Proofs.Ytmoijbknjadeeaa
