
/- Chapter 8: Save of the program: what it is as data. -/
import Derived.Test.YtmoijbknjadeeaaSnapIns
import Derived.Test.YtmoijbknjadeeaaPdOk
import Derived.Test.YtmoijbknjadeeaaSeal
import Derived.Test.YtmoijbknjadeeaaWal
import Derived.LoopN
namespace Go.Proofs.Ytmoijbknjadeeaa
set_option linter.unusedVariables false
set_option linter.unusedSimpArgs false
open Go.RowKit
def spF (nm : ByteArray) : ByteArray := nm ++ ⟨#[126]⟩
theorem spF_size (nm : ByteArray) : (spF nm).size = nm.size + 1 := by unfold spF; rw [ByteArray.size_append]; rfl
def slL (b : List UInt8) : List UInt8 := b ++ fourL (ofN b)
def sv1 (d : PD) (sp nm : ByteArray) : Out := d.reO sp nm
def sv2 (d : PD) (sp nm : ByteArray) : Out := if (d.syO sp).code = 0 then sv1 (d.out (d.syO sp)) sp nm else d.syO sp
def sv3 (d : PD) (sp nm : ByteArray) (b : List UInt8) : Out := if (d.apO sp (slL b)).code = 0 then sv2 (d.out (d.apO sp (slL b))) sp nm else d.apO sp (slL b)
def svO (d : PD) (sp nm : ByteArray) (b : List UInt8) : Out := if (d.rmO sp).code = 0 ∨ (d.rmO sp).code = 6 then sv3 (d.out (d.rmO sp)) sp nm b else d.rmO sp
set_option maxHeartbeats 1000000 in
/-- slices.Index of texts -/
theorem index_tx {A : Option Addr} {n c B : Nat} {ks : List ByteArray} (k : ByteArray) (w : World) (hr : Rd w B 1 A n c (ks.map Value.string)) (hl : ks.length = n) :
    Calls Try.prog 94 #[.slice A n c, .string k] w fun x w' => (∃ r : Int, x = .returned (.int .i64 r) ∧ ((k ∈ ks ∧ 0 ≤ r) ∨ (k ∉ ks ∧ r = -1))) ∧ w = w' := by
  subst hl
  have hle := hr.le
  have hmax := hr.max
  unfold maxLen at hmax
  have HR := Lib.hid hr
  clear hr
  go_enter Try.func94, Try.ntmps94
  go_wp2_with fail
  go_loopw [8] (fun i wr => ∃ j : Nat, j ≤ ks.length ∧ i = .int .i64 (j : Int) ∧ (∀ i (h : i < j) (h2 : i < ks.length), ks[i] ≠ k) ∧ wr = w) (fun i _ => ks.length - (intOf i).toNat)
  case atStart => exact ⟨0, Nat.zero_le _, rfl, fun i h => absurd h (by omega), rfl⟩
  case round =>
    obtain ⟨j, hj, rfl, hall, rfl⟩ := hrel
    by_cases hlt : j < ks.length
    · obtain ⟨g, off, eA, hg, hcell⟩ := HR.out.cells (by omega)
      subst eA
      have e0 := hcell j (.string ks[j]) (by rw [List.getElem?_map, List.getElem?_eq_getElem hlt]; rfl)
      have hi1 : (0 : Int) ≤ (j : Int) := by omega
      have hi2 : (j : Int) < (ks.length : Int) := by omega
      have hmem := List.getElem_mem hlt
      have HN := Lib.hid (show ks[j] ≠ k → ∀ i (h : i < j + 1) (h2 : i < ks.length), ks[i] ≠ k from fun hk i h h2 => by
        rcases Nat.lt_succ_iff_lt_or_eq.1 h with h' | h'
        · exact hall i h' h2
        · subst h'; exact hk)
      have HM := Lib.hid hmem
      clear hcell hall hmem
      generalize ks[j] = y at *
      by_cases hk : y = k
      · have hkb : (k.toList == y.toList) = true := by rw [ba_beq]; exact decide_eq_true hk.symm
        have hmem : k ∈ ks := by rw [← hk]; exact HM.out
        have HMM := Lib.hid hmem
        clear hk hmem
        go_wp2_with fail
        go_ret
        exact ⟨⟨_, rfl, .inl ⟨HMM.out, by omega⟩⟩, rfl⟩
      · have hkb : (k.toList == y.toList) = false := by rw [ba_beq]; exact decide_eq_false (fun e => hk e.symm)
        have HN2 := Lib.hid (HN.out hk)
        clear hk
        go_wp2_with fail
        go_roundw
        case rel => exact ⟨j + 1, by omega, by go_num, HN2.out, by trivial⟩
        case measure => simp [intOf]; omega
    · have hn : k ∉ ks := fun hm => by
        obtain ⟨i, hi, e⟩ := List.getElem_of_mem hm
        exact hall i (by omega) hi e
      have HN := Lib.hid hn
      clear hn hall
      go_wp2_with fail
      go_ret
      exact ⟨⟨-1, rfl, .inr ⟨HN.out, rfl⟩⟩, rfl⟩
theorem contains_tx (q : Bool) {A : Option Addr} {n c B : Nat} {ks : List ByteArray} (k : ByteArray) (w : World) (hr : Rd w B 1 A n c (ks.map Value.string)) (hl : ks.length = n) (hq : q = true ↔ k ∈ ks) :
    Calls Try.prog 74 #[.slice A n c, .string k] w fun x w' => x = .returned (.bool q) ∧ w = w' := by
  have HI := index_tx k w hr hl
  cases q with
  | true =>
    have hm : k ∈ ks := hq.1 rfl
    have HI2 := HI.mono (R' := fun x w' => ∃ r : Int, x = .returned (.int .i64 r) ∧ decide (0 ≤ r) = true ∧ w = w') (by
      rintro x w' ⟨⟨r, rfl, ⟨_, h⟩ | ⟨h, _⟩⟩, rfl⟩
      · exact ⟨r, rfl, decide_eq_true h, rfl⟩
      · exact absurd hm h)
    clear HI
    go_enter Try.func74, Try.ntmps74
    go_wp2_with (((with_reducible refine (HI2).mono ?_); rintro z v ⟨r, rfl, hr0, rfl⟩))
    go_ret
    exact ⟨rfl, rfl⟩
  | false =>
    have hm : k ∉ ks := fun h => by have := hq.2 h; cases this
    have HI2 := HI.mono (R' := fun x w' => x = .returned (.int .i64 (-1)) ∧ w = w') (by
      rintro x w' ⟨⟨r, rfl, ⟨h, _⟩ | ⟨_, rfl⟩⟩, rfl⟩
      · exact absurd h hm
      · exact ⟨rfl, rfl⟩)
    clear HI
    go_enter Try.func74, Try.ntmps74
    go_wp2_with (((with_reducible refine (HI2).mono ?_); rintro z v ⟨rfl, rfl⟩))
    go_ret
    exact ⟨rfl, rfl⟩
theorem spare_any (nm : ByteArray) (hk : nm.size + 1 ≤ maxLen) (w : World) : Calls Try.prog 69 #[.string nm] w fun x w' => x = .returned (.string (spF nm)) ∧ w = w' := by
  unfold spF
  unfold maxLen at hk
  have h1 : ¬ 9223372036854775807 < nm.size + 1 := by omega
  have h2 : ¬ (9223372036854775807 : Int) < (nm.size : Int) + 1 := by omega
  have h3 : (⟨#[126]⟩ : ByteArray).size = 1 := rfl
  go_enter Try.func69, Try.ntmps69
  go_wp2_with fail
  go_ret
  exact ⟨rfl, rfl⟩
/-- what the steps hang on -/
structure SvK (w : World) (B0 ga gs gn gp : Nat) (A : Option Addr) (m c : Nat) (fs : List Value) (gd : Nat) (sp nm : ByteArray) (P : Option Addr) (n pc : Nat) (b : List UInt8) : Prop where
  bA : At w ga 24 [.pointer (some ⟨gd, 0, none⟩)]
  bS : At w gs 9 [.string sp]
  bN : At w gn 9 [.string nm]
  bP : At w gp 27 [.slice P n pc]
  row : OwnF w B0 A m c fs
  rd : RdB w w.heap.size P n pc b
section
variable {w w' : World} {B0 ga gs gn gp m c gd bd N n pc M K : Nat} {A P : Option Addr} {fs : List Value} {sp nm : ByteArray} {b : List UInt8} {d : PD}
theorem SvK.dk (h : SvK w B0 ga gs gn gp A m c fs gd sp nm P n pc b) (hd : IsD w gd bd N d) (hm : Mod (fun i _ => i = gd ∨ i = bd) w w') : SvK w' B0 ga gs gn gp A m c fs gd sp nm P n pc b :=
  ⟨hm.at h.bA (hd.freeAt h.bA (by decide)), hm.at h.bS (hd.freeAt h.bS (by decide)), hm.at h.bN (hd.freeAt h.bN (by decide)), hm.at h.bP (hd.freeAt h.bP (by decide)), own_mod h.row hm (fun i o ho _ hit e => hd.free ho hit (by decide) e), hd.rdb h.rd (Nat.le_refl _) hm⟩
theorem SvK.step (h : SvK w B0 ga gs gn gp A m c fs gd sp nm P n pc b) (hb : Below w.heap.size w w') : SvK w' B0 ga gs gn gp A m c fs gd sp nm P n pc b :=
  ⟨h.bA.below hb, h.bS.below hb, h.bN.below hb, h.bP.below hb, own_below h.row hb, (h.rd.below hb).more hb.size⟩
def sF1 (ga gs gp : Nat) : Value := .func (.func 70) #[] #[.pointer (some ⟨ga, 0, none⟩), .pointer (some ⟨gs, 0, none⟩), .pointer (some ⟨gp, 0, none⟩)]
def sF2 (ga gs : Nat) : Value := .func (.func 72) #[] #[.pointer (some ⟨ga, 0, none⟩), .pointer (some ⟨gs, 0, none⟩)]
def sF3 (ga gs gn : Nat) : Value := .func (.func 73) #[] #[.pointer (some ⟨ga, 0, none⟩), .pointer (some ⟨gs, 0, none⟩), .pointer (some ⟨gn, 0, none⟩)]
def sF4 (ga gs : Nat) : Value := .func (.func 76) #[] #[.pointer (some ⟨ga, 0, none⟩), .pointer (some ⟨gs, 0, none⟩)]
set_option maxRecDepth 100000 in
theorem sf1_any (w : World) (h : SvK w B0 ga gs gn gp A m c fs gd sp nm P n pc b) (hd : IsD w gd bd N d) (ho : d.Ok M K) (hM : M ≤ 100000000) (hsp : sp.size ≤ maxLen) (hn : n ≤ 1000000) (hN : N < 1000000) :
    Calls Try.prog 70 #[.pointer (some ⟨ga, 0, none⟩), .pointer (some ⟨gs, 0, none⟩), .pointer (some ⟨gp, 0, none⟩)] w fun x w' => DP w w' gd bd N d (d.apO sp (slL b)) x := by
  obtain ⟨a0, af⟩ := at1 h.bA
  obtain ⟨s0, sf⟩ := at1 h.bS
  obtain ⟨p0, pf⟩ := at1 h.bP
  have hbn := h.rd.length
  have HH := Lib.hid h
  have HD := Lib.hid hd
  clear h hd
  go_enter Try.func70, Try.ntmps70
  go_upto_region 1 with fail
  refine region_any (by kernel_rfl) ?_
  change wpAny _ _ _ _ _ _ _ (World.drew _)
  have h1 := HH.out.step (Below.drew (Below.refl _ w))
  have hd1 := HD.out.drew
  have hm1 : Mod (fun i _ => i = gd ∨ i = bd) w w.drew := (Mod.refl _ w).drew
  clear a0 s0 p0 af sf pf HH HD
  generalize World.drew _ = w1 at *
  obtain ⟨a0, af⟩ := at1 h1.bA
  obtain ⟨s0, sf⟩ := at1 h1.bS
  obtain ⟨p0, pf⟩ := at1 h1.bP
  have la := h1.bA.lt
  have ls := h1.bS.lt
  have lp := h1.bP.lt
  refine stage 4 ?_
  refine stage_read (i := 0) (v := ?_) rfl (by kernel_rfl) (by kernel_rfl) (by kernel_rfl) (by kernel_rfl) (by kernel_rfl) (by kernel_rfl) (fun _ _ _ h => h) (Or.inl ⟨by kernel_rfl, ?_⟩) ?_
  rotate_left
  · (intro wS hwS; obtain ⟨hcS, hfS, hhS⟩ := bcell hwS; go_simp; try (first | (with_reducible rfl) | rw [if_pos (by omega)] | rw [if_neg (by omega)]))
  try simp only [Act.put, List.getElem_toArray, List.getElem_cons_succ, List.getElem_cons_zero, List.setIfInBounds_toArray, List.set_cons_zero, List.set_cons_succ]
  refine stage_read (i := 1) (v := ?_) rfl (by kernel_rfl) (by kernel_rfl) (by kernel_rfl) (by kernel_rfl) (by kernel_rfl) (by kernel_rfl) (fun _ _ _ h => h) (Or.inl ⟨by kernel_rfl, ?_⟩) ?_
  rotate_left
  · (intro wS hwS; obtain ⟨hcS, hfS, hhS⟩ := bcell hwS; go_simp; try (first | (with_reducible rfl) | rw [if_pos (by omega)] | rw [if_neg (by omega)]))
  try simp only [Act.put, List.getElem_toArray, List.getElem_cons_succ, List.getElem_cons_zero, List.setIfInBounds_toArray, List.set_cons_zero, List.set_cons_succ]
  refine stage_read (i := 2) (v := ?_) rfl (by kernel_rfl) (by kernel_rfl) (by kernel_rfl) (by kernel_rfl) (by kernel_rfl) (by kernel_rfl) (fun _ _ _ h => h) (Or.inl ⟨by kernel_rfl, ?_⟩) ?_
  rotate_left
  · (intro wS hwS; obtain ⟨hcS, hfS, hhS⟩ := bcell hwS; go_simp; try (first | (with_reducible rfl) | rw [if_pos (by omega)] | rw [if_neg (by omega)]))
  try simp only [Act.put, List.getElem_toArray, List.getElem_cons_succ, List.getElem_cons_zero, List.setIfInBounds_toArray, List.set_cons_zero, List.set_cons_succ]
  refine stage_one 3 (by kernel_rfl) rfl (by kernel_rfl) (fun K hK => ?_)
  go_simp
  refine (seal_any P n pc b _ h1.rd (by omega)).mono ?_
  rintro z w2 ⟨A2, c2, rfl, hown, hb2⟩
  refine hK.out _ _ (hb2) ?_
  clear hK K
  try simp only [Act.put, List.getElem_toArray, List.getElem_cons_succ, List.getElem_cons_zero, List.setIfInBounds_toArray, List.set_cons_zero, List.set_cons_succ]
  have h2 := h1.step hb2
  have hd2 := hd1.step hb2
  have hm2 := hm1.below hb2
  have hrd := hown.rd
  clear a0 s0 p0 af sf pf la ls lp h1 hd1 hm1 hown hb2
  obtain ⟨a0, af⟩ := at1 h2.bA
  obtain ⟨s0, sf⟩ := at1 h2.bS
  have la := h2.bA.lt
  have ls := h2.bS.lt

  refine stage_end (by kernel_rfl) rfl (fun K hK => ?_)
  go_simp
  refine (pd_ap sp hsp A2 (n + 4) c2 (slL b) _ hd2 ho hM (fun u hG => hd2.rdb hrd (Nat.le_refl _) (grown_mod' hG)) (by omega) hN).mono ?_
  rintro z w3 ⟨rfl, hm3, hd3⟩
  refine hK.out _ _ ?_
  clear hK K
  try simp only [Act.put, List.getElem_toArray, List.getElem_cons_succ, List.getElem_cons_zero, List.setIfInBounds_toArray, List.set_cons_zero, List.set_cons_succ]
  first | refine stage 1000000 ?_ | skip
  refine stage_read (i := 5) (v := ?_) rfl (by kernel_rfl) (by kernel_rfl) (by kernel_rfl) (by kernel_rfl) (by kernel_rfl) (by kernel_rfl) (fun _ _ _ h => h) (Or.inl ⟨by kernel_rfl, ?_⟩) ?_
  rotate_left
  · (intro wS hwS; obtain ⟨hcS, hfS, hhS⟩ := bcell hwS; go_simp; try (first | (with_reducible rfl) | rw [if_pos (by omega)] | rw [if_neg (by omega)]))
  try simp only [Act.put, List.getElem_toArray, List.getElem_cons_succ, List.getElem_cons_zero, List.setIfInBounds_toArray, List.set_cons_zero, List.set_cons_succ]
  first | refine wpAnyT_done (by kernel_rfl) ?_ _ | refine wpAny_done (by kernel_rfl) ?_ _
  have HM := Lib.hid (hm2.trans hm3)
  have HD3 := Lib.hid hd3
  clear hm2 hm3 hd3 h2 hd2 hrd a0 s0 af sf la ls
  go_wp2_with fail
  go_ret
  exact ⟨rfl, HM.out, HD3.out⟩
theorem sf2_any (w : World) (h : SvK w B0 ga gs gn gp A m c fs gd sp nm P n pc b) (hd : IsD w gd bd N d) (hsp : sp.size ≤ maxLen) (hN : N < 1000000) :
    Calls Try.prog 72 #[.pointer (some ⟨ga, 0, none⟩), .pointer (some ⟨gs, 0, none⟩)] w fun x w' => DP w w' gd bd N d (d.syO sp) x := by
  obtain ⟨a0, af⟩ := at1 h.bA
  obtain ⟨s0, sf⟩ := at1 h.bS
  obtain ⟨n0, nf⟩ := at1 h.bN
  have HC := pd_sy sp hsp w hd hN
  clear h hd
  go_enter Try.func72, Try.ntmps72
  go_wp2_with (((with_reducible refine (HC).mono ?_); rintro z w2 ⟨rfl, hm, hd⟩))
  go_ret
  exact ⟨rfl, hm, hd⟩
theorem sf3_any (w : World) (h : SvK w B0 ga gs gn gp A m c fs gd sp nm P n pc b) (hd : IsD w gd bd N d) (hsp : sp.size ≤ maxLen) (hnm : nm.size ≤ maxLen) (hN : N < 1000000) :
    Calls Try.prog 73 #[.pointer (some ⟨ga, 0, none⟩), .pointer (some ⟨gs, 0, none⟩), .pointer (some ⟨gn, 0, none⟩)] w fun x w' => DP w w' gd bd N d (d.reO sp nm) x := by
  obtain ⟨a0, af⟩ := at1 h.bA
  obtain ⟨s0, sf⟩ := at1 h.bS
  obtain ⟨n0, nf⟩ := at1 h.bN
  have HC := pd_re sp nm hsp hnm w hd hN
  clear h hd
  go_enter Try.func73, Try.ntmps73
  go_wp2_with (((with_reducible refine (HC).mono ?_); rintro z w2 ⟨rfl, hm, hd⟩))
  go_ret
  exact ⟨rfl, hm, hd⟩
theorem sf4_any (w : World) (h : SvK w B0 ga gs gn gp A m c fs gd sp nm P n pc b) (hd : IsD w gd bd N d) (hsp : sp.size ≤ maxLen) (hN : N < 1000000) :
    Calls Try.prog 76 #[.pointer (some ⟨ga, 0, none⟩), .pointer (some ⟨gs, 0, none⟩)] w fun x w' => DP w w' gd bd N d (d.rmO sp) x := by
  obtain ⟨a0, af⟩ := at1 h.bA
  obtain ⟨s0, sf⟩ := at1 h.bS
  obtain ⟨n0, nf⟩ := at1 h.bN
  have HC := pd_rm sp hsp w hd
  clear h hd
  go_enter Try.func76, Try.ntmps76
  go_wp2_with (((with_reducible refine (HC).mono ?_); rintro z w2 ⟨rfl, hm, hd⟩))
  go_ret
  exact ⟨rfl, hm, hd⟩
end
end Go.Proofs.Ytmoijbknjadeeaa
