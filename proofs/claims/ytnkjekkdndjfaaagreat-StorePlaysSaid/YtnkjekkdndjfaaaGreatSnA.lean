
/- slices.Insert of one function value ahead of three; slices.Contains of texts. -/
import Derived.Laws.CopyRow
import Derived.Lib.AppendZeros
import Derived.Lib.AppendZerosOnto
import Derived.Lib.Overlaps
import Derived.Deep.Cut
import Derived.LoopN
import Derived.Test.YtnkjekkdndjfaaaGreatDkB
import Derived.Test.YtnkjekkdndjfaaaGreatRgA
import Derived.Test.YtnkjekkdndjfaaaGreatPdA
import Derived.Test.YtnkjekkdndjfaaaGreatSumA
import Derived.Test.YtnkjekkdndjfaaaGreatWalA
namespace Go.Proofs.YtnkjekkdndjfaaaGreat
set_option linter.unusedVariables false
set_option linter.unusedSimpArgs false
open Go.RowKit
theorem info_fn : (Tryz.prog.info? 64).map (fun i => (i.zero, i.size, i.bytes)) = some (some Value.nilFunc, 1, 8) := by kernel_rfl
abbrev OwnF (w : World) (base : Nat) (A : Option Addr) (n c : Nat) (l : List Value) : Prop := w.ownsRow base 64 1 (.slice A n c) n l
theorem take_midV {α : Type} (R S news : List α) (a b n : Nat) (hR : R.length = n) (hn : news.length = b - a) (hab : a ≤ b) (hb : b ≤ n) :
    (((R ++ S).take a ++ news) ++ (R ++ S).drop b).take n = (R.take a ++ news) ++ R.drop b := by
  have h1 : (R ++ S).take a = R.take a := List.take_append_of_le_length (by omega)
  have h2 : (R ++ S).drop b = R.drop b ++ S := List.drop_append_of_le_length (by omega)
  rw [h1, h2, ← List.append_assoc]
  exact List.take_left' (by simp; omega)
theorem copy_fn {w : World} {base n c g p k m cs dCap B : Nat} {A : Option Addr} {l y : List Value} (ty : TypeId) (hown : OwnF w base (some ⟨g, 0, none⟩) n c l) (hy : Rd w B 1 A m cs y) (hk : k = Nat.min m (n - p)) (hp : p + k ≤ n) (h0 : 0 < k) (h1 : ∀ v ∈ y, v.oneCell' = true) :
    ∃ w', (Builtin.copy_ #[159, 159] ty #[.slice (some ⟨g, p, none⟩) (n - p) dCap, .slice A m cs]).run Tryz.prog w = .ok (goInt k) w' ∧
      OwnF w' base (some ⟨g, 0, none⟩) n c ((l.take p ++ y.take k) ++ l.drop (p + k)) ∧ w.grownBy w' (some g) := by
  obtain ⟨i0, hi0, hz0, hz1, hz2⟩ := info_parts info_fn
  obtain ⟨hl, h⟩ := hown
  have hym : y.length = m := by have := hy.len; omega
  have hkm : k ≤ m := by rw [hk]; exact Nat.min_le_left _ _
  rcases h with ⟨e, _⟩ | ⟨g', cap, cur, e1, e2, e3, e4, e5, e6, e7⟩
  · cases e
  · injection e1 with e1 e1' e1''
    injection e1 with e1
    injection e1 with e1 _ _
    subst e1
    subst e1''
    obtain ⟨g2, off2, rfl, hg2, hc2⟩ := hy.cells (by have := hy.le; omega)
    obtain ⟨news, hnews⟩ : ∃ news, news = y.take k := ⟨_, rfl⟩
    have hnl : news.length = k := by rw [hnews, List.length_take]; omega
    have hsrc : ∀ j v, news[j]? = some v → w.cell? ((⟨g2, off2, none⟩ : Addr).add j) = some v := by
      intro j v hj
      have hplain : (⟨g2, off2, none⟩ : Addr).add j = ⟨g2, off2 + j, none⟩ := by unfold Addr.add; split <;> simp_all
      rw [hplain]
      refine hc2 j v ?_
      rw [hnews, List.getElem?_take] at hj
      split at hj
      · exact hj
      · cases hj
    have hone : ∀ v ∈ news, v.oneCell' = true := by rw [hnews]; exact fun v hv => h1 v (List.mem_of_mem_take hv)
    have hload := run_loadCells_list (P := Tryz.prog) w ⟨g2, off2, none⟩ news hsrc
    have hsz : cur.size = c := by rw [e6]; omega
    have hst := run_storeCells_at Tryz.prog g p 64 news 0 cur w e3 (by rw [hsz]; omega) hone
    rw [Nat.add_zero] at hst
    rw [hnl] at hload
    refine ⟨w.setRow g (cur.toList.take p ++ news ++ cur.toList.drop (p + news.length)).toArray, ?_, ?_, ?_⟩
    · have hk2 : Nat.min m (n - p) = k := hk.symm
      simp [Builtin.copy_, run_underlying Tryz.underlying159, Builtin.lenOf, Builtin.firstCells, sizeOf, typeInfo, hi0, hz1, hk2, hload, hst]
    · refine ⟨?_, .inr ⟨g, c, _, rfl, e2, setRow_heap w g cur _ _ _ e3, by omega, e5, ?_, ?_⟩⟩
      · simp only [List.length_append, List.length_take, List.length_drop]
        omega
      · simp; omega
      · obtain ⟨S, hS⟩ : ∃ S, cur.toList = l ++ S := ⟨cur.toList.drop (n * 1), by rw [← e7, List.take_append_drop]⟩
        simp only [List.toList_toArray, Nat.mul_one]
        rw [hS, take_midV l S news p (p + news.length) n (by omega) (by omega) (by omega) (by omega), ← hnews, show p + news.length = p + k by omega]
    · refine ⟨rfl, rfl, rfl, ?_, ?_⟩
      · simp [World.setRow]
      · intro j _ hj
        exact setRow_other w g j _ (fun e => hj (by rw [e]))
theorem zero_fn (k : Nat) : (Builtin.zeroCells (Value.nilFunc).cells k).toList = List.replicate k Value.nilFunc := by
  apply List.ext_getElem?
  intro j
  by_cases hj : j < k
  · rw [List.getElem?_replicate, if_pos hj]
    have h3 : j < (Builtin.zeroCells (Value.nilFunc).cells k).toList.length := by simp [Builtin.zeroCells, Value.cells]; exact hj
    rw [List.getElem?_eq_getElem h3]
    simp [Builtin.zeroCells, Value.cells, Nat.mod_one]
  · rw [List.getElem?_eq_none (by simp [Builtin.zeroCells, Value.cells]; omega), List.getElem?_eq_none (by simp; omega)]
theorem grow_fn {w : World} {c k : Nat} {A : Addr} (ty : TypeId) (h0 : 0 < k) (hg : c < k) (hn : k ≤ 1000) :
    ∃ A2 c2 w', (Builtin.append_ #[159, 3] ty #[.slice (some A) 0 c, .int .i64 (k : Nat)]).run Tryz.prog w = .ok (.slice A2 k c2) w' ∧ OwnF w' w.heap.size A2 k c2 (List.replicate k .nilFunc) ∧ Below w.heap.size w w' := by
  obtain ⟨i0, hi0, hz0, hz1, hz2⟩ := info_parts info_fn
  have hold : (Builtin.firstCells i0.size 0 (.slice (some A) 0 c)).run Tryz.prog w.drew = .ok ([] : List Value).toArray w.drew := by
    rw [hz1]
    have hload := run_loadCells_list (P := Tryz.prog) w.drew A [] (by intro j v hj; simp at hj)
    simp only [List.length_nil] at hload
    simp only [Builtin.firstCells, Nat.zero_mul]
    exact hload
  have hnx : Builtin.nextslicecap (0 + k) c ≤ 10000000 := by
    unfold Builtin.nextslicecap
    split
    · omega
    · split
      · omega
      · simp only [Builtin.growBy]
        repeat' split
        all_goals omega
  have hrun := Lib.run_append_grow_zeros (P := Tryz.prog) w 159 3 ty 64 i0 _ .i64 .i64 Tryz.underlying159 Tryz.underlying3 hi0 hz0 (some A) 0 c [] hold k h0 (by omega) (by omega) (by omega) (by rw [hz2]; omega) (by rw [hz2]; omega)
  rw [Nat.zero_add] at hrun
  obtain ⟨cap, hcap⟩ : ∃ cap, cap = grownCap w k c 64 := ⟨_, rfl⟩
  have h1 := grownCap_ge w k c 64
  have h2 := grownCap_le_maxLen w k c 64 (by simp only [maxLen]; omega)
  rw [← hcap] at hrun h1 h2
  refine ⟨_, _, _, hrun, ?_, ?_⟩
  · have hz : ∀ q, (Builtin.zeroCells (Value.nilFunc).cells q).size = q := by
      intro q
      have := congrArg List.length (zero_fn q)
      rw [List.length_replicate] at this
      simpa using this
    refine ⟨?_, .inr ⟨w.heap.size, cap, _, rfl, Nat.le_refl _, heap_alloc_new w.drew _, h1, h2, ?_, ?_⟩⟩
    · rw [List.length_replicate, Nat.mul_one]
    · simp only [Array.size_append, hz, List.size_toArray, List.length_nil]
      omega
    · simp only [Array.toList_append, zero_fn]
      rw [List.take_append_of_le_length (by simp), List.take_of_length_le (by simp)]
      rfl
  · exact ((Below.refl _ _).drew).alloc (Nat.le_refl _) _
set_option maxRecDepth 100000 in
set_option maxHeartbeats 4000000 in
theorem insert_fn {g gv : Nat} {a b c e : Value} (w : World) (hown : At w g 64 [a, b, c]) (hv : At w gv 64 [e]) (h1 : ∀ v ∈ [a, b, c], v.oneCell' = true) (h2 : ∀ v ∈ [e], v.oneCell' = true) :
    Calls Tryz.prog 84 #[.slice (some ⟨g, 0, none⟩) 3 3, .int .i64 0, .slice (some ⟨gv, 0, none⟩) 1 1] w fun r w' =>
      ∃ A2 c2, r = .returned (.slice A2 4 c2) ∧ OwnF w' w.heap.size A2 4 c2 [e, a, b, c] ∧ Below w.heap.size w w' := by
  have hs3 := (own_lit6 hown (n := 3) (s := 1) rfl (by simp [maxLen]) 0 (Nat.zero_le _))
  have hv1 := (own_lit6 hv (n := 1) (s := 1) rfl (by simp [maxLen]) 0 (Nat.zero_le _))
  have hr3 : Rd w w.heap.size 1 (some ⟨g, 0, none⟩) 3 3 [a, b, c] := Rd.of_own hs3
  have hr1 : Rd w w.heap.size 1 (some ⟨gv, 0, none⟩) 1 1 [e] := Rd.of_own hv1
  clear hs3 hv1 hown hv
  obtain ⟨A2, c2, w2, hrun, ho2, hb2⟩ := grow_fn (w := w) (c := 3) (k := 4) (A := ⟨g, 0, none⟩) 159 (by omega) (by omega) (by omega)
  obtain ⟨g2, eA2, hg2, hg2'⟩ : ∃ g2, A2 = some ⟨g2, 0, none⟩ ∧ w.heap.size ≤ g2 ∧ g2 < w2.heap.size := by
    rcases ho2.2 with ⟨_, e⟩ | ⟨g, cap, cur, e1, e2, e3, _⟩
    · omega
    · injection e1 with e1
      exact ⟨g, e1, e2, (Array.getElem?_eq_some_iff.1 e3).1⟩
  subst eA2
  have hle2 : 4 ≤ c2 := (Rd.of_own ho2).le
  obtain ⟨w3, hcp1, ho3, hg3⟩ := copy_fn (p := 0) (k := 1) (dCap := c2) (y := [e]) 3 ho2 ((Rd.below hr1 hb2).more hb2.size) (by decide) (by omega) (by omega) h2
  have hb3 : Below w.heap.size w w3 := hb2.trans ((Below.refl _ _).grown hg3 hb2.size (by intro i hi; injection hi with hi; omega))
  have hr5 : Rd w3.drew w3.drew.heap.size 1 (some ⟨g, 0, none⟩) 3 3 [a, b, c] := (Rd.below hr3 hb3.drew).more hb3.size
  obtain ⟨w5, hcp2, ho5, hg5⟩ := copy_fn (w := w3.drew) (p := 1) (k := 3) (dCap := c2 - 1) (y := [a, b, c]) 3 (show OwnF w3.drew _ _ _ _ _ from ho3) hr5 (by decide) (by omega) (by omega) h1
  have hb5 : Below w.heap.size w w5 := hb3.drew.trans ((Below.refl _ _).grown hg5 hb3.size (by intro i hi; injection hi with hi; omega))
  simp only [Nat.sub_zero, Nat.reduceSub, Int.cast_ofNat_Int] at hrun hcp1 hcp2
  have HB5 := Lib.hid hb5
  have HO5 := Lib.hid ho5
  have HR := Lib.hid hrun
  have HC1 := Lib.hid hcp1
  clear hb5 ho5 hrun hcp1 hg5 hg3 ho3 hb3 ho2 hb2 hr3 hr1 hr5
  go_enter Tryz.func84, Tryz.ntmps84
  go_upto_region 9 with fail
  have q1 := HC1.out
  go_upto_region 11 with (at_builtin; refine Lib.wpList_append_run _ rfl (.tmp 34) (.tmp 39) _ _ rfl _ _ rfl rfl _ _ HR.out ?_)
  clear q1
  refine region_any (by kernel_rfl) ?_
  change wpAny _ _ _ _ _ _ _ (World.drew _)
  generalize World.drew _ = w4 at *
  have hck2 : ¬ c2 = 1 := by omega
  have hw1 : IntKind.i64.wrap (1 : Int) = 1 := IntWalk.i64_in _ (by omega)
  have htn : (1 : Int).toNat = 1 := rfl
  refine stage 8 ?_
  refine tag [0,1,2,3,4,5,6,7] ?_
  iterate 8 (
    refine sR (v := ?_) rfl (by kernel_rfl) (fun _ _ _ h => h) (Or.inl ⟨by kernel_rfl, ?_⟩) ?_
    rotate_left
    · (intro wS hwS; obtain ⟨hcS, hfS, hhS⟩ := bcell hwS; go_simp; try (first | (with_reducible rfl) | rw [if_pos (by omega)] | rw [if_neg (by omega)]))
    try simp only [PT])
  refine tagN ?_
  refine stage_end (by kernel_rfl) rfl (fun K hK => ?_)
  go_simp
  refine hK.out _ _ ?_
  clear hK K
  try simp only [PT]
  first | refine wpAnyT_done (by kernel_rfl) ?_ _ | refine wpAny_done (by kernel_rfl) ?_ _
  go_wp2_with fail
  go_ret
  exact ⟨some ⟨g2, 0, none⟩, c2, rfl, HO5.out, HB5.out⟩
end Go.Proofs.YtnkjekkdndjfaaaGreat
namespace Go.Proofs.YtnkjekkdndjfaaaGreat
set_option linter.unusedVariables false
set_option linter.unusedSimpArgs false
open Go.RowKit
def spF (nm : ByteArray) : ByteArray := nm ++ ⟨#[126]⟩
theorem spF_size (nm : ByteArray) : (spF nm).size = nm.size + 1 := by unfold spF; rw [ByteArray.size_append]; rfl
def slL (b : List UInt8) : List UInt8 := b ++ fourL (ofN b)
def sv1 (d : PD) (sp nm : ByteArray) : Out := d.reO sp nm
def sv2 (d : PD) (sp nm : ByteArray) : Out := if (d.syO sp).code = 0 then sv1 (d.out (d.syO sp)) sp nm else d.syO sp
def sv3 (d : PD) (sp nm : ByteArray) (b : List UInt8) : Out := if (d.apO sp (slL b)).code = 0 then sv2 (d.out (d.apO sp (slL b))) sp nm else d.apO sp (slL b)
def svO (d : PD) (sp nm : ByteArray) (b : List UInt8) : Out := if (d.rmO sp).code = 0 ∨ (d.rmO sp).code = 6 then sv3 (d.out (d.rmO sp)) sp nm b else d.rmO sp
set_option maxHeartbeats 1000000 in
/-- slices.Index of texts -/
theorem index_tx {A : Option Addr} {n c B : Nat} {ks : List ByteArray} (k : ByteArray) (w : World) (hr : Rd w B 1 A n c (ks.map Value.string)) (hl : ks.length = n) :
    Calls Tryz.prog 123 #[.slice A n c, .string k] w fun x w' => (∃ r : Int, x = .returned (.int .i64 r) ∧ ((k ∈ ks ∧ 0 ≤ r) ∨ (k ∉ ks ∧ r = -1))) ∧ w = w' := by
  subst hl
  have hle := hr.le
  have hmax := hr.max
  unfold maxLen at hmax
  have HR := Lib.hid hr
  clear hr
  go_enter Tryz.func123, Tryz.ntmps123
  go_wp2_with fail
  go_loopw [8] (fun i wr => ∃ j : Nat, j ≤ ks.length ∧ i = .int .i64 (j : Int) ∧ (∀ i (h : i < j) (h2 : i < ks.length), ks[i] ≠ k) ∧ wr = w) (fun i _ => ks.length - (intOf i).toNat)
  case atStart => exact ⟨0, Nat.zero_le _, rfl, fun i h => absurd h (by omega), rfl⟩
  case round =>
    obtain ⟨j, hj, rfl, hall, rfl⟩ := hrel
    by_cases hlt : j < ks.length
    · obtain ⟨g, off, eA, hg, hcell⟩ := HR.out.cells (by omega)
      subst eA
      have e0 := hcell j (.string ks[j]) (by rw [List.getElem?_map, List.getElem?_eq_getElem hlt]; rfl)
      have hi1 : (0 : Int) ≤ (j : Int) := by omega
      have hi2 : (j : Int) < (ks.length : Int) := by omega
      have hmem := List.getElem_mem hlt
      have HN := Lib.hid (show ks[j] ≠ k → ∀ i (h : i < j + 1) (h2 : i < ks.length), ks[i] ≠ k from fun hk i h h2 => by
        rcases Nat.lt_succ_iff_lt_or_eq.1 h with h' | h'
        · exact hall i h' h2
        · subst h'; exact hk)
      have HM := Lib.hid hmem
      clear hcell hall hmem
      generalize ks[j] = y at *
      by_cases hk : y = k
      · have hkb : (k.toList == y.toList) = true := by rw [ba_beq]; exact decide_eq_true hk.symm
        have hmem : k ∈ ks := by rw [← hk]; exact HM.out
        have HMM := Lib.hid hmem
        clear hk hmem
        go_wp2_with fail
        go_ret
        exact ⟨⟨_, rfl, .inl ⟨HMM.out, by omega⟩⟩, rfl⟩
      · have hkb : (k.toList == y.toList) = false := by rw [ba_beq]; exact decide_eq_false (fun e => hk e.symm)
        have HN2 := Lib.hid (HN.out hk)
        clear hk
        go_wp2_with fail
        go_roundw
        case rel => exact ⟨j + 1, by omega, by go_num, HN2.out, by trivial⟩
        case measure => simp [intOf]; omega
    · have hn : k ∉ ks := fun hm => by
        obtain ⟨i, hi, e⟩ := List.getElem_of_mem hm
        exact hall i (by omega) hi e
      have HN := Lib.hid hn
      clear hn hall
      go_wp2_with fail
      go_ret
      exact ⟨⟨-1, rfl, .inr ⟨HN.out, rfl⟩⟩, rfl⟩
theorem contains_tx (q : Bool) {A : Option Addr} {n c B : Nat} {ks : List ByteArray} (k : ByteArray) (w : World) (hr : Rd w B 1 A n c (ks.map Value.string)) (hl : ks.length = n) (hq : q = true ↔ k ∈ ks) :
    Calls Tryz.prog 83 #[.slice A n c, .string k] w fun x w' => x = .returned (.bool q) ∧ w = w' := by
  have HI := index_tx k w hr hl
  cases q with
  | true =>
    have hm : k ∈ ks := hq.1 rfl
    have HI2 := HI.mono (R' := fun x w' => ∃ r : Int, x = .returned (.int .i64 r) ∧ decide (0 ≤ r) = true ∧ w = w') (by
      rintro x w' ⟨⟨r, rfl, ⟨_, h⟩ | ⟨h, _⟩⟩, rfl⟩
      · exact ⟨r, rfl, decide_eq_true h, rfl⟩
      · exact absurd hm h)
    clear HI
    go_enter Tryz.func83, Tryz.ntmps83
    go_wp2_with (((with_reducible refine (HI2).mono ?_); rintro z v ⟨r, rfl, hr0, rfl⟩))
    go_ret
    exact ⟨rfl, rfl⟩
  | false =>
    have hm : k ∉ ks := fun h => by have := hq.2 h; cases this
    have HI2 := HI.mono (R' := fun x w' => x = .returned (.int .i64 (-1)) ∧ w = w') (by
      rintro x w' ⟨⟨r, rfl, ⟨h, _⟩ | ⟨_, rfl⟩⟩, rfl⟩
      · exact absurd h hm
      · exact ⟨rfl, rfl⟩)
    clear HI
    go_enter Tryz.func83, Tryz.ntmps83
    go_wp2_with (((with_reducible refine (HI2).mono ?_); rintro z v ⟨rfl, rfl⟩))
    go_ret
    exact ⟨rfl, rfl⟩
theorem spare_any (nm : ByteArray) (hk : nm.size + 1 ≤ maxLen) (w : World) : Calls Tryz.prog 76 #[.string nm] w fun x w' => x = .returned (.string (spF nm)) ∧ w = w' := by
  unfold spF
  unfold maxLen at hk
  have h1 : ¬ 9223372036854775807 < nm.size + 1 := by omega
  have h2 : ¬ (9223372036854775807 : Int) < (nm.size : Int) + 1 := by omega
  have h3 : (⟨#[126]⟩ : ByteArray).size = 1 := rfl
  go_enter Tryz.func76, Tryz.ntmps76
  go_wp2_with fail
  go_ret
  exact ⟨rfl, rfl⟩
/-- what the steps hang on -/
structure SvK (w : World) (B0 ga gs gn gp : Nat) (A : Option Addr) (m c : Nat) (fs : List Value) (gd : Nat) (sp nm : ByteArray) (P : Option Addr) (n pc : Nat) (b : List UInt8) : Prop where
  bA : At w ga 23 [.pointer (some ⟨gd, 0, none⟩)]
  bS : At w gs 9 [.string sp]
  bN : At w gn 9 [.string nm]
  bP : At w gp 22 [.slice P n pc]
  row : OwnF w B0 A m c fs
  rd : RdB w w.heap.size P n pc b
section
variable {w w' : World} {B0 ga gs gn gp m c gd bd N n pc M K : Nat} {A P : Option Addr} {fs : List Value} {sp nm : ByteArray} {b : List UInt8} {d : PD}
theorem SvK.dk (h : SvK w B0 ga gs gn gp A m c fs gd sp nm P n pc b) (hd : IsD w gd bd N d) (hm : Mod (fun i _ => i = gd ∨ i = bd) w w') : SvK w' B0 ga gs gn gp A m c fs gd sp nm P n pc b :=
  ⟨hm.at h.bA (hd.freeAt h.bA (by decide)), hm.at h.bS (hd.freeAt h.bS (by decide)), hm.at h.bN (hd.freeAt h.bN (by decide)), hm.at h.bP (hd.freeAt h.bP (by decide)), own_mod h.row hm (fun i o ho _ hit e => hd.free ho hit (by decide) e), hd.rdb h.rd (Nat.le_refl _) hm⟩
theorem SvK.step (h : SvK w B0 ga gs gn gp A m c fs gd sp nm P n pc b) (hb : Below w.heap.size w w') : SvK w' B0 ga gs gn gp A m c fs gd sp nm P n pc b :=
  ⟨h.bA.below hb, h.bS.below hb, h.bN.below hb, h.bP.below hb, own_below h.row hb, (h.rd.below hb).more hb.size⟩
def sF1 (ga gs gp : Nat) : Value := .func (.func 77) #[] #[.pointer (some ⟨ga, 0, none⟩), .pointer (some ⟨gs, 0, none⟩), .pointer (some ⟨gp, 0, none⟩)]
def sF2 (ga gs : Nat) : Value := .func (.func 79) #[] #[.pointer (some ⟨ga, 0, none⟩), .pointer (some ⟨gs, 0, none⟩)]
def sF3 (ga gs gn : Nat) : Value := .func (.func 81) #[] #[.pointer (some ⟨ga, 0, none⟩), .pointer (some ⟨gs, 0, none⟩), .pointer (some ⟨gn, 0, none⟩)]
def sF4 (ga gs : Nat) : Value := .func (.func 85) #[] #[.pointer (some ⟨ga, 0, none⟩), .pointer (some ⟨gs, 0, none⟩)]
set_option maxRecDepth 100000 in
theorem sf1_any (w : World) (h : SvK w B0 ga gs gn gp A m c fs gd sp nm P n pc b) (hd : IsD w gd bd N d) (ho : d.Ok M K) (hM : M ≤ 100000000) (hsp : sp.size ≤ maxLen) (hn : n ≤ 1000000) (hN : N < 1000000) :
    Calls Tryz.prog 77 #[.pointer (some ⟨ga, 0, none⟩), .pointer (some ⟨gs, 0, none⟩), .pointer (some ⟨gp, 0, none⟩)] w fun x w' => DP w w' gd bd N d (d.apO sp (slL b)) x := by
  obtain ⟨a0, af⟩ := at1 h.bA
  obtain ⟨s0, sf⟩ := at1 h.bS
  obtain ⟨p0, pf⟩ := at1 h.bP
  have hbn := h.rd.length
  have HH := Lib.hid h
  have HD := Lib.hid hd
  clear h hd
  go_enter Tryz.func77, Tryz.ntmps77
  go_upto_region 1 with fail
  refine region_any (by kernel_rfl) ?_
  change wpAny _ _ _ _ _ _ _ (World.drew _)
  have h1 := HH.out.step (Below.drew (Below.refl _ w))
  have hd1 := HD.out.drew
  have hm1 : Mod (fun i _ => i = gd ∨ i = bd) w w.drew := (Mod.refl _ w).drew
  clear a0 s0 p0 af sf pf HH HD
  generalize World.drew _ = w1 at *
  obtain ⟨a0, af⟩ := at1 h1.bA
  obtain ⟨s0, sf⟩ := at1 h1.bS
  obtain ⟨p0, pf⟩ := at1 h1.bP
  have la := h1.bA.lt
  have ls := h1.bS.lt
  have lp := h1.bP.lt
  refine stage 4 ?_
  refine tag [0,1,2] ?_
  iterate 3 (
    refine sR (v := ?_) rfl (by kernel_rfl) (fun _ _ _ h => h) (Or.inl ⟨by kernel_rfl, ?_⟩) ?_
    rotate_left
    · (intro wS hwS; obtain ⟨hcS, hfS, hhS⟩ := bcell hwS; go_simp; try (first | (with_reducible rfl) | rw [if_pos (by omega)] | rw [if_neg (by omega)]))
    try simp only [PT])
  refine tagN ?_
  refine stage_one 3 (by kernel_rfl) rfl (by kernel_rfl) (fun K hK => ?_)
  go_simp
  refine (seal_any P n pc b _ h1.rd (by omega)).mono ?_
  rintro z w2 ⟨A2, c2, rfl, hown, hb2⟩
  refine hK.out _ _ (hb2) ?_
  clear hK K
  try simp only [PT]
  have h2 := h1.step hb2
  have hd2 := hd1.step hb2
  have hm2 := hm1.below hb2
  have hrd := hown.rd
  clear a0 s0 p0 af sf pf la ls lp h1 hd1 hm1 hown hb2
  obtain ⟨a0, af⟩ := at1 h2.bA
  obtain ⟨s0, sf⟩ := at1 h2.bS
  have la := h2.bA.lt
  have ls := h2.bS.lt

  refine stage_end (by kernel_rfl) rfl (fun K hK => ?_)
  go_simp
  refine (pd_ap sp hsp A2 (n + 4) c2 (slL b) _ hd2 ho hM (fun u hG => hd2.rdb hrd (Nat.le_refl _) (grown_mod' hG)) (by omega) hN).mono ?_
  rintro z w3 ⟨rfl, hm3, hd3⟩
  refine hK.out _ _ ?_
  clear hK K
  try simp only [PT]
  first | refine stage 1000000 ?_ | skip
  refine tag [5] ?_
  refine sR (v := ?_) rfl (by kernel_rfl) (fun _ _ _ h => h) (Or.inl ⟨by kernel_rfl, ?_⟩) ?_
  rotate_left
  · (intro wS hwS; obtain ⟨hcS, hfS, hhS⟩ := bcell hwS; go_simp; try (first | (with_reducible rfl) | rw [if_pos (by omega)] | rw [if_neg (by omega)]))
  try simp only [PT]
  refine tagN ?_
  first | refine wpAnyT_done (by kernel_rfl) ?_ _ | refine wpAny_done (by kernel_rfl) ?_ _
  have HM := Lib.hid (hm2.trans hm3)
  have HD3 := Lib.hid hd3
  clear hm2 hm3 hd3 h2 hd2 hrd a0 s0 af sf la ls
  go_wp2_with fail
  go_ret
  exact ⟨rfl, HM.out, HD3.out⟩
theorem sf2_any (w : World) (h : SvK w B0 ga gs gn gp A m c fs gd sp nm P n pc b) (hd : IsD w gd bd N d) (hsp : sp.size ≤ maxLen) (hN : N < 1000000) :
    Calls Tryz.prog 79 #[.pointer (some ⟨ga, 0, none⟩), .pointer (some ⟨gs, 0, none⟩)] w fun x w' => DP w w' gd bd N d (d.syO sp) x := by
  obtain ⟨a0, af⟩ := at1 h.bA
  obtain ⟨s0, sf⟩ := at1 h.bS
  obtain ⟨n0, nf⟩ := at1 h.bN
  have HC := pd_sy sp hsp w hd hN
  clear h hd
  go_enter Tryz.func79, Tryz.ntmps79
  go_wp2_with (((with_reducible refine (HC).mono ?_); rintro z w2 ⟨rfl, hm, hd⟩))
  go_ret
  exact ⟨rfl, hm, hd⟩
theorem sf3_any (w : World) (h : SvK w B0 ga gs gn gp A m c fs gd sp nm P n pc b) (hd : IsD w gd bd N d) (hsp : sp.size ≤ maxLen) (hnm : nm.size ≤ maxLen) (hN : N < 1000000) :
    Calls Tryz.prog 81 #[.pointer (some ⟨ga, 0, none⟩), .pointer (some ⟨gs, 0, none⟩), .pointer (some ⟨gn, 0, none⟩)] w fun x w' => DP w w' gd bd N d (d.reO sp nm) x := by
  obtain ⟨a0, af⟩ := at1 h.bA
  obtain ⟨s0, sf⟩ := at1 h.bS
  obtain ⟨n0, nf⟩ := at1 h.bN
  have HC := pd_re sp nm hsp hnm w hd hN
  clear h hd
  go_enter Tryz.func81, Tryz.ntmps81
  go_wp2_with (((with_reducible refine (HC).mono ?_); rintro z w2 ⟨rfl, hm, hd⟩))
  go_ret
  exact ⟨rfl, hm, hd⟩
theorem sf4_any (w : World) (h : SvK w B0 ga gs gn gp A m c fs gd sp nm P n pc b) (hd : IsD w gd bd N d) (hsp : sp.size ≤ maxLen) (hN : N < 1000000) :
    Calls Tryz.prog 85 #[.pointer (some ⟨ga, 0, none⟩), .pointer (some ⟨gs, 0, none⟩)] w fun x w' => DP w w' gd bd N d (d.rmO sp) x := by
  obtain ⟨a0, af⟩ := at1 h.bA
  obtain ⟨s0, sf⟩ := at1 h.bS
  obtain ⟨n0, nf⟩ := at1 h.bN
  have HC := pd_rm sp hsp w hd
  clear h hd
  go_enter Tryz.func85, Tryz.ntmps85
  go_wp2_with (((with_reducible refine (HC).mono ?_); rintro z w2 ⟨rfl, hm, hd⟩))
  go_ret
  exact ⟨rfl, hm, hd⟩
end
end Go.Proofs.YtnkjekkdndjfaaaGreat
namespace Go.Proofs.YtnkjekkdndjfaaaGreat
set_option linter.unusedVariables false
set_option linter.unusedSimpArgs false
open Go.RowKit
section
variable {w w' : World} {B0 ga gs gn gp m c gd bd N n pc M K : Nat} {A P : Option Addr} {fs : List Value} {sp nm : ByteArray} {b : List UInt8} {d : PD}
theorem pd_names (w : World) (h : IsD w gd bd N d) (hN : N ≤ 1000000) :
    Calls Tryz.prog 31 #[.pointer (some ⟨gd, 0, none⟩)] w fun x w' => ∃ A c, x = .returned (.slice A d.fs.length c) ∧ Rd w' w'.heap.size 1 A d.fs.length c ((d.fs.map Fi.k).map Value.string) ∧ Below w.heap.size w w' := by
  obtain ⟨l, h1, h2⟩ := h
  have hl := rows_len h1
  refine (names_any w h2 hN).mono ?_
  rintro x w' ⟨A, c, rfl, hown, hb⟩
  refine ⟨A, c, by rw [hl], ?_, hb⟩
  have e : namesL l = (d.fs.map Fi.k).map Value.string := by unfold namesL; rw [← h1, List.map_map, List.map_map]; rfl
  rw [← e, ← hl]
  exact Rd.of_own hown
theorem mem_k {l : List Fi} {k : ByteArray} : (findF l k).isSome = true ↔ k ∈ l.map Fi.k := by
  unfold findF
  rw [List.find?_isSome, List.mem_map]
  constructor
  · rintro ⟨x, hx, h⟩
    exact ⟨x, hx, by simpa using h⟩
  · rintro ⟨x, hx, h⟩
    exact ⟨x, hx, by simpa using h⟩
def SV (w w' : World) (gd bd N : Nat) (d : PD) (o : Out) (x : Ending) : Prop := x = .returned (.int .i64 o.code) ∧ Mod (fun i _ => i = gd ∨ i = bd) w w' ∧ IsD w' gd bd (N + 4) (d.out o)
theorem own_cell {w : World} {base m c g j : Nat} {fs : List Value} {v : Value} (h : OwnF w base (some ⟨g, 0, none⟩) m c fs) (hj : fs[j]? = some v) : w.cell? ⟨g, j, none⟩ = some v := by
  have h1 := Rd.of_own h
  have hlen : j < fs.length := (List.getElem?_eq_some_iff.1 hj).1
  have hl := h1.len
  have hle := h1.le
  obtain ⟨g2, off, e, _, hc⟩ := h1.cells (by omega)
  injection e with e
  injection e with e1 e2
  subst e1 e2
  have := hc j v hj
  rw [Nat.zero_add] at this
  exact this
theorem fn_form {w : World} {base m c : Nat} {A : Option Addr} {fs : List Value} (h : OwnF w base A m c fs) (hm : 0 < m) : ∃ g, A = some ⟨g, 0, none⟩ := by
  rcases h.2 with ⟨_, e⟩ | ⟨g, cap, cur, e1, _⟩
  · omega
  · injection e1 with e1
    exact ⟨g, e1⟩
theorem dout_any (d : PD) (o1 o2 : Out) : (d.out o1).out o2 = d.out o2 := rfl
theorem sv3_1 {D : PD} {o1 : Out} (h : D.apO sp (slL b) = o1) (hc : ¬ o1.code = 0) : sv3 D sp nm b = o1 := by unfold sv3; rw [h, if_neg hc]
theorem sv3_2 {D : PD} {o1 o2 : Out} (h : D.apO sp (slL b) = o1) (hc : o1.code = 0) (h2 : (D.out o1).syO sp = o2) (hc2 : ¬ o2.code = 0) : sv3 D sp nm b = o2 := by unfold sv3 sv2; rw [h, if_pos hc, h2, if_neg hc2]
theorem sv3_3 {D : PD} {o1 o2 o3 : Out} (h : D.apO sp (slL b) = o1) (hc : o1.code = 0) (h2 : (D.out o1).syO sp = o2) (hc2 : o2.code = 0) (h3 : ((D.out o1).out o2).reO sp nm = o3) : sv3 D sp nm b = o3 := by unfold sv3 sv2 sv1; rw [h, if_pos hc, h2, if_pos hc2, h3]
theorem svO_0 {o0 : Out} (h : d.rmO sp = o0) (hc : ¬ o0.code = 0) (h6 : ¬ o0.code = 6) : svO d sp nm b = o0 := by unfold svO; rw [h, if_neg (by intro q; rcases q with q | q; exact hc q; exact h6 q)]
set_option maxRecDepth 100000 in
set_option maxHeartbeats 8000000 in
theorem save_any (hnm1 : 1 ≤ nm.size) (hnm : nm.size + 1 ≤ maxLen) (w : World) (hd : IsD w gd bd N d) (ho : d.Ok M K) (hM : M ≤ 10000000) (hK : K ≤ 100000) (hN : N ≤ 900000) (hr : RdB w w.heap.size P n pc b) (hn : n ≤ 1000000) :
    Calls Tryz.prog 47 #[.pointer (some ⟨gd, 0, none⟩), .string nm, .slice P n pc] w fun x w' => SV w w' gd bd N d (svO d (spF nm) nm b) x := by
  have he := emptyS_iff nm
  rw [decide_eq_true hnm1] at he
  have HSP := fun v => spare_any nm hnm v
  have hsps : (spF nm).size ≤ maxLen := by rw [spF_size]; exact hnm
  generalize spF nm = sp at *
  have hnms : nm.size ≤ maxLen := by omega
  obtain ⟨hA, hN', hP, hb1⟩ := three_at w 23 [.pointer (some ⟨gd, 0, none⟩)] 9 [.string nm] 22 [.slice P n pc]
  have hd1 := hd.step hb1
  have hr1 := (hr.below hb1).more hb1.size
  have hm1 : Mod (fun i _ => i = gd ∨ i = bd) w _ := (Mod.refl _ w).below hb1
  clear hd hr hb1
  go_enter Tryz.func47, Tryz.ntmps47
  go_upto_region 1 with fail
  generalize World.alloc (World.alloc (World.alloc w _) _) _ = w1 at *
  generalize w.heap.size + 2 = gp at *
  generalize w.heap.size + 1 = gn at *
  generalize w.heap.size = ga at *
  obtain ⟨a0, af⟩ := at1 hA
  obtain ⟨n0, nf⟩ := at1 hN'
  go_upto_region 6 with (((with_reducible refine ((HSP w1)).mono ?_); rintro z v ⟨rfl, rfl⟩))
  obtain ⟨hS, hb2⟩ := one_at w1 9 [.string sp]
  clear a0 af n0 nf HSP
  replace hA := hA.step hb2
  replace hN' := hN'.step hb2
  replace hP := hP.step hb2
  replace hd1 := hd1.step hb2
  replace hr1 := (hr1.below hb2).more hb2.size
  replace hm1 := hm1.below hb2
  clear hb2
  generalize World.alloc w1 _ = w2 at *
  generalize w1.heap.size = gs at *
  go_upto_region 7 with fail
  obtain ⟨hR, hb3⟩ := one_at w2 64 [sF1 ga gs gp, sF2 ga gs, sF3 ga gs gn]
  have hK3 : SvK _ 0 ga gs gn gp (some ⟨w2.heap.size, 0, none⟩) 3 3 [sF1 ga gs gp, sF2 ga gs, sF3 ga gs gn] gd sp nm P n pc b := ⟨hA.step hb3, hS.step hb3, hN'.step hb3, hP.step hb3, own_lit6 hR (n := 3) (s := 1) rfl (by simp [maxLen]) 0 (Nat.zero_le _), (hr1.below hb3).more hb3.size⟩
  replace hd1 := hd1.step hb3
  replace hm1 := hm1.below hb3
  clear hA hS hN' hP hr1 hb3
  unfold sF1 sF2 sF3 at *
  generalize World.alloc w2 _ = w3 at *
  generalize w2.heap.size = gr at *
  refine region_any (by kernel_rfl) ?_
  change wpAny _ _ _ _ _ _ _ (World.drew _)
  replace hK3 := hK3.step (Below.drew (Below.refl _ w3))
  replace hd1 := hd1.drew
  replace hm1 := hm1.drew
  replace hR := At.drew hR
  generalize World.drew _ = w4 at *
  obtain ⟨a0, af⟩ := at1 hK3.bA
  obtain ⟨s0, sf⟩ := at1 hK3.bS
  have la := hK3.bA.lt
  have ls := hK3.bS.lt
  refine stage 100000 ?_
  refine tag [0,2] ?_
  iterate 2 (
    refine sR (v := ?_) rfl (by kernel_rfl) (fun _ _ _ h => h) (Or.inl ⟨by kernel_rfl, ?_⟩) ?_
    rotate_left
    · (intro wS hwS; obtain ⟨hcS, hfS, hhS⟩ := bcell hwS; go_simp; try (first | (with_reducible rfl) | rw [if_pos (by omega)] | rw [if_neg (by omega)]))
    try simp only [PT])
  refine tagN ?_
  refine stage_one 1 (by kernel_rfl) rfl (by kernel_rfl) (fun K hK => ?_)
  go_simp
  refine (pd_names w4 hd1 (by omega)).mono ?_
  rintro z w5 ⟨A5, c5, rfl, hrd5, hb5⟩
  refine hK.out _ _ (hb5) ?_
  clear hK K
  try simp only [PT]
  replace hK3 := hK3.step hb5
  replace hd1 := hd1.step hb5
  replace hm1 := hm1.below hb5
  replace hR := At.step hR hb5
  clear hb5 a0 af s0 sf la ls

  obtain ⟨q, hq⟩ : ∃ q, (findF d.fs sp).isSome = q := ⟨_, rfl⟩
  refine stage_one 3 (by kernel_rfl) rfl (by kernel_rfl) (fun K hK => ?_)
  go_simp
  refine (contains_tx q sp w5 hrd5 (by rw [List.length_map]) (by rw [← hq]; exact mem_k)).mono ?_
  rintro z w6 ⟨rfl, rfl⟩
  refine hK.out _ _ ((Below.refl _ _)) ?_
  clear hK K
  try simp only [PT]
  first | refine wpAnyT_done (by kernel_rfl) ?_ _ | refine wpAny_done (by kernel_rfl) ?_ _
  have HK := Lib.hid hK3
  have HD := Lib.hid hd1
  have HM := Lib.hid hm1
  have HR := Lib.hid hR
  clear hK3 hd1 hm1 hR hrd5
  cases q with
  | false =>
    have hrm : d.rmO sp = ⟨6, d.fs, d.lost, d.left⟩ := by unfold PD.rmO rmO goO; rw [hq]; rfl
    have hsv : svO d sp nm b = sv3 d sp nm b := by unfold svO; rw [hrm, if_pos (.inr rfl)]; rfl
    have HE := Lib.hid hsv
    have hok0 : d.Ok M K := ho
    clear hsv hrm hq HR ho
    go_wp2_with fail
    refine wp_loop_rounds 4 ?_
    obtain ⟨o1, ho1⟩ : ∃ o, (d).apO sp (slL b) = o := ⟨_, rfl⟩
    have hok1 := ok_ap hok0 sp hsps (slL b)
    rw [ho1] at hok1
    have HO1 := Lib.hid ho1
    clear ho1
    rw [rounds_succ]
    have ec := own_cell HK.out.row (j := 0) rfl
    have HC := sf1_any _ HK.out HD.out hok0 (by omega) hsps hn (by omega)
    rw [HO1.out] at HC
    have HD1 := Lib.hid HD.out
    go_upto_region 13 with (((with_reducible refine (HC).mono ?_); rintro z w11 ⟨rfl, hm, hd⟩))
    clear HC ec
    replace HK := Lib.hid (HK.out.dk HD1.out hm)
    replace HM := Lib.hid (HM.out.trans hm)
    replace HD := Lib.hid hd
    clear HD1 hm hd
    by_cases hc : o1.code = 0
    rotate_left
    ·
      have hcb : (o1.code == 0) = false := by simpa using hc
      have hcn : (o1.code != 0) = true := by simpa using hc
      have HQ := Lib.hid hc
      clear hc
      go_wp2_with fail
      go_ret
      rw [show svO d sp nm b = o1 from HE.out.trans (sv3_1 HO1.out HQ.out)]
      exact ⟨rfl, HM.out, HD.out.more (by omega)⟩
    have HC1 := Lib.hid hc
    go_wp2_with fail
    clear hc
    obtain ⟨o2, ho2⟩ : ∃ o, ((d).out o1).syO sp = o := ⟨_, rfl⟩
    have HO2 := Lib.hid ho2
    clear ho2
    rw [rounds_succ]
    have ec := own_cell HK.out.row (j := 1) rfl
    have HC := sf2_any _ HK.out HD.out hsps (by omega)
    rw [HO2.out] at HC
    have HD1 := Lib.hid HD.out
    go_upto_region 13 with (((with_reducible refine (HC).mono ?_); rintro z w12 ⟨rfl, hm, hd⟩))
    clear HC ec
    replace HK := Lib.hid (HK.out.dk HD1.out hm)
    replace HM := Lib.hid (HM.out.trans hm)
    replace HD := Lib.hid hd
    clear HD1 hm hd
    by_cases hc : o2.code = 0
    rotate_left
    ·
      have hcb : (o2.code == 0) = false := by simpa using hc
      have hcn : (o2.code != 0) = true := by simpa using hc
      have HQ := Lib.hid hc
      clear hc
      go_wp2_with fail
      go_ret
      rw [show svO d sp nm b = o2 from HE.out.trans (sv3_2 HO1.out HC1.out HO2.out HQ.out)]
      exact ⟨rfl, HM.out, HD.out.more (by omega)⟩
    have HC2 := Lib.hid hc
    go_wp2_with fail
    clear hc
    obtain ⟨o3, ho3⟩ : ∃ o, (((d).out o1).out o2).reO sp nm = o := ⟨_, rfl⟩
    have HO3 := Lib.hid ho3
    clear ho3
    rw [rounds_succ]
    have ec := own_cell HK.out.row (j := 2) rfl
    have HC := sf3_any _ HK.out HD.out hsps hnms (by omega)
    rw [HO3.out] at HC
    have HD1 := Lib.hid HD.out
    go_upto_region 13 with (((with_reducible refine (HC).mono ?_); rintro z w13 ⟨rfl, hm, hd⟩))
    clear HC ec
    replace HK := Lib.hid (HK.out.dk HD1.out hm)
    replace HM := Lib.hid (HM.out.trans hm)
    replace HD := Lib.hid hd
    clear HD1 hm hd
    by_cases hc : o3.code = 0
    rotate_left
    ·
      have hcb : (o3.code == 0) = false := by simpa using hc
      have hcn : (o3.code != 0) = true := by simpa using hc
      have HQ := Lib.hid hc
      clear hc
      go_wp2_with fail
      go_ret
      rw [show svO d sp nm b = o3 from HE.out.trans (sv3_3 HO1.out HC1.out HO2.out HC2.out HO3.out)]
      exact ⟨rfl, HM.out, HD.out.more (by omega)⟩
    have HC3 := Lib.hid hc
    go_wp2_with fail
    clear hc
    rw [rounds_succ]
    go_wp2_with fail
    go_ret
    rw [show svO d sp nm b = o3 from HE.out.trans (sv3_3 HO1.out HC1.out HO2.out HC2.out HO3.out)]
    exact ⟨by rw [HC3.out]; rfl, HM.out, HD.out.more (by omega)⟩
  | true =>
    obtain ⟨o0, ho0⟩ : ∃ o, d.rmO sp = o := ⟨_, rfl⟩
    have hok0 := ok_rm ho sp
    rw [ho0] at hok0
    have h06 : ¬ o0.code = 6 := by
      rw [← ho0]
      unfold PD.rmO rmO goO
      rw [if_neg (by rw [hq]; simp), if_neg (by simp)]
      unfold wrP
      cases d.lost <;> cases d.armed <;> simp <;> split <;> simp
    have HO0 := Lib.hid ho0
    have H06 := Lib.hid h06
    clear ho0 h06 hq
    obtain ⟨h9, hb9⟩ := one_at w5 64 [sF4 ga gs]
    have HI := insert_fn _ (HR.out.step hb9) h9 (by simp [Value.oneCell']) (by simp [Value.oneCell', sF4])
    have HK9 := Lib.hid (HK.out.step hb9)
    have HD9 := Lib.hid (HD.out.step hb9)
    have HM9 := Lib.hid (HM.out.below hb9)
    clear HK HD HM HR h9 hb9
    unfold sF4 at *
    go_upto_region 9 with (((with_reducible refine (HI).mono ?_); rintro z w6 ⟨A6, c6, rfl, hown6, hb6⟩))
    have hk9 := HK9.out.step hb6
    obtain ⟨g6, eA⟩ := fn_form hown6 (by omega)
    subst eA
    have HK := Lib.hid (show SvK w6 _ ga gs gn gp (some ⟨g6, 0, none⟩) 4 c6 _ gd sp nm P n pc b from ⟨hk9.bA, hk9.bS, hk9.bN, hk9.bP, hown6, hk9.rd⟩)
    have HD := Lib.hid (HD9.out.step hb6)
    have HM := Lib.hid (HM9.out.below hb6)
    have hle6 := (Rd.of_own hown6).le
    clear HI HK9 HD9 HM9 hk9 hown6 hb6
    go_wp2_with fail
    refine wp_loop_rounds 5 ?_
    rw [rounds_succ]
    have ec := own_cell HK.out.row (j := 0) rfl
    have HC := sf4_any _ HK.out HD.out hsps (by omega)
    rw [HO0.out] at HC
    have HD1 := Lib.hid HD.out
    go_upto_region 13 with (((with_reducible refine (HC).mono ?_); rintro z w10 ⟨rfl, hm, hd⟩))
    clear HC ec
    replace HK := Lib.hid (HK.out.dk HD1.out hm)
    replace HM := Lib.hid (HM.out.trans hm)
    replace HD := Lib.hid hd
    clear HD1 hm hd
    by_cases hc : o0.code = 0
    rotate_left
    ·
      have hcb : (o0.code == 0) = false := by simpa using hc
      have hcn : (o0.code != 0) = true := by simpa using hc
      have HQ := Lib.hid hc
      clear hc
      go_wp2_with fail
      go_ret
      rw [show svO d sp nm b = o0 from svO_0 HO0.out HQ.out H06.out]
      exact ⟨rfl, HM.out, HD.out.more (by omega)⟩
    have HC0 := Lib.hid hc
    have hsv : svO d sp nm b = sv3 (d.out o0) sp nm b := by unfold svO; rw [HO0.out, if_pos (.inl hc)]
    have HE := Lib.hid hsv
    clear hsv
    go_wp2_with fail
    clear hc
    obtain ⟨o1, ho1⟩ : ∃ o, (d.out o0).apO sp (slL b) = o := ⟨_, rfl⟩
    have hok1 := ok_ap hok0 sp hsps (slL b)
    rw [ho1] at hok1
    have HO1 := Lib.hid ho1
    clear ho1
    rw [rounds_succ]
    have ec := own_cell HK.out.row (j := 1) rfl
    have HC := sf1_any _ HK.out HD.out hok0 (by omega) hsps hn (by omega)
    rw [HO1.out] at HC
    have HD1 := Lib.hid HD.out
    go_upto_region 13 with (((with_reducible refine (HC).mono ?_); rintro z w11 ⟨rfl, hm, hd⟩))
    clear HC ec
    replace HK := Lib.hid (HK.out.dk HD1.out hm)
    replace HM := Lib.hid (HM.out.trans hm)
    replace HD := Lib.hid hd
    clear HD1 hm hd
    by_cases hc : o1.code = 0
    rotate_left
    ·
      have hcb : (o1.code == 0) = false := by simpa using hc
      have hcn : (o1.code != 0) = true := by simpa using hc
      have HQ := Lib.hid hc
      clear hc
      go_wp2_with fail
      go_ret
      rw [show svO d sp nm b = o1 from HE.out.trans (sv3_1 HO1.out HQ.out)]
      exact ⟨rfl, HM.out, HD.out.more (by omega)⟩
    have HC1 := Lib.hid hc
    go_wp2_with fail
    clear hc
    obtain ⟨o2, ho2⟩ : ∃ o, ((d.out o0).out o1).syO sp = o := ⟨_, rfl⟩
    have HO2 := Lib.hid ho2
    clear ho2
    rw [rounds_succ]
    have ec := own_cell HK.out.row (j := 2) rfl
    have HC := sf2_any _ HK.out HD.out hsps (by omega)
    rw [HO2.out] at HC
    have HD1 := Lib.hid HD.out
    go_upto_region 13 with (((with_reducible refine (HC).mono ?_); rintro z w12 ⟨rfl, hm, hd⟩))
    clear HC ec
    replace HK := Lib.hid (HK.out.dk HD1.out hm)
    replace HM := Lib.hid (HM.out.trans hm)
    replace HD := Lib.hid hd
    clear HD1 hm hd
    by_cases hc : o2.code = 0
    rotate_left
    ·
      have hcb : (o2.code == 0) = false := by simpa using hc
      have hcn : (o2.code != 0) = true := by simpa using hc
      have HQ := Lib.hid hc
      clear hc
      go_wp2_with fail
      go_ret
      rw [show svO d sp nm b = o2 from HE.out.trans (sv3_2 HO1.out HC1.out HO2.out HQ.out)]
      exact ⟨rfl, HM.out, HD.out.more (by omega)⟩
    have HC2 := Lib.hid hc
    go_wp2_with fail
    clear hc
    obtain ⟨o3, ho3⟩ : ∃ o, (((d.out o0).out o1).out o2).reO sp nm = o := ⟨_, rfl⟩
    have HO3 := Lib.hid ho3
    clear ho3
    rw [rounds_succ]
    have ec := own_cell HK.out.row (j := 3) rfl
    have HC := sf3_any _ HK.out HD.out hsps hnms (by omega)
    rw [HO3.out] at HC
    have HD1 := Lib.hid HD.out
    go_upto_region 13 with (((with_reducible refine (HC).mono ?_); rintro z w13 ⟨rfl, hm, hd⟩))
    clear HC ec
    replace HK := Lib.hid (HK.out.dk HD1.out hm)
    replace HM := Lib.hid (HM.out.trans hm)
    replace HD := Lib.hid hd
    clear HD1 hm hd
    by_cases hc : o3.code = 0
    rotate_left
    ·
      have hcb : (o3.code == 0) = false := by simpa using hc
      have hcn : (o3.code != 0) = true := by simpa using hc
      have HQ := Lib.hid hc
      clear hc
      go_wp2_with fail
      go_ret
      rw [show svO d sp nm b = o3 from HE.out.trans (sv3_3 HO1.out HC1.out HO2.out HC2.out HO3.out)]
      exact ⟨rfl, HM.out, HD.out.more (by omega)⟩
    have HC3 := Lib.hid hc
    go_wp2_with fail
    clear hc
    rw [rounds_succ]
    go_wp2_with fail
    go_ret
    rw [show svO d sp nm b = o3 from HE.out.trans (sv3_3 HO1.out HC1.out HO2.out HC2.out HO3.out)]
    exact ⟨by rw [HC3.out]; rfl, HM.out, HD.out.more (by omega)⟩
end
end Go.Proofs.YtnkjekkdndjfaaaGreat
namespace Go.Proofs.YtnkjekkdndjfaaaGreat
set_option linter.unusedVariables false
set_option linter.unusedSimpArgs false
open Go.RowKit
def ldC (d : PD) (nm : ByteArray) : Int := if d.rc nm = 0 then (if wholeB (d.rb nm) then 0 else 5) else d.rc nm
def ldB (d : PD) (nm : ByteArray) : List UInt8 := if d.rc nm = 0 then (if wholeB (d.rb nm) then (d.rb nm).take ((d.rb nm).length - 4) else []) else []
def RSV (w w' : World) (gr : Nat) (d : PD) (o : Out) (x : Ending) : Prop := x = .returned (.int .i64 o.code) ∧ Mod (fun i _ => i = gr) w w' ∧ IsR w' gr (d.out o)
section
variable {w w' : World} {gd bd gr N n pc M K : Nat} {A P : Option Addr} {sp nm : ByteArray} {b : List UInt8} {d : PD}
theorem save_empty (p : Option Addr) (hk : nm.size = 0) (w : World) : Calls Tryz.prog 47 #[.pointer p, .string nm, .slice P n pc] w fun x w' => x = .returned (.int .i64 1) ∧ Below w.heap.size w w' := by
  have he := emptyS_iff nm
  rw [decide_eq_false (by omega)] at he
  obtain ⟨hA, hN', hP, hb1⟩ := three_at w 23 [.pointer p] 9 [.string nm] 22 [.slice P n pc]
  go_enter Tryz.func47, Tryz.ntmps47
  go_upto_region 1 with fail
  generalize World.alloc (World.alloc (World.alloc w _) _) _ = w1 at *
  obtain ⟨n0, nf⟩ := at1 hN'
  have HB := Lib.hid hb1
  clear hA hN' hP hb1
  go_wp2_with fail
  go_ret
  exact ⟨rfl, HB.out⟩
theorem save_nil (hk : 1 ≤ nm.size) (w : World) : Calls Tryz.prog 47 #[.pointer none, .string nm, .slice P n pc] w fun x w' => x = .returned (.int .i64 2) ∧ Below w.heap.size w w' := by
  have he := emptyS_iff nm
  rw [decide_eq_true hk] at he
  obtain ⟨hA, hN', hP, hb1⟩ := three_at w 23 [.pointer none] 9 [.string nm] 22 [.slice P n pc]
  go_enter Tryz.func47, Tryz.ntmps47
  go_upto_region 1 with fail
  generalize World.alloc (World.alloc (World.alloc w _) _) _ = w1 at *
  obtain ⟨n0, nf⟩ := at1 hN'
  obtain ⟨a0, af⟩ := at1 hA
  have HB := Lib.hid hb1
  clear hA hN' hP hb1
  go_wp2_with fail
  go_ret
  exact ⟨rfl, HB.out⟩
theorem load_nil (w : World) : Calls Tryz.prog 58 #[.pointer none, .string nm] w fun x w' => x = .returned (.tuple #[.slice none 0 0, .int .i64 2]) ∧ w = w' := by
  go_enter Tryz.func58, Tryz.ntmps58
  go_wp2_with (((with_reducible refine ((dread_nil nm w)).mono ?_); rintro z v ⟨rfl, rfl⟩))
  exact bodyPost_ret (v := .tuple #[.slice none 0 0, .int .i64 2]) (by simp [results, Tryz.results58, go_sem]) rfl ⟨rfl, rfl⟩
def LD (w w' : World) (c : Int) (l : List UInt8) (x : Ending) : Prop := ∃ A n k, x = .returned (.tuple #[.slice A n k, .int .i64 c]) ∧ RdB w' w'.heap.size A n k l ∧ Below w.heap.size w w'
theorem load_any (hk : nm.size ≤ maxLen) (w : World) (h : IsD w gd bd N d) (ho : d.Ok M K) (hM : M ≤ 10000000) :
    Calls Tryz.prog 58 #[.pointer (some ⟨gd, 0, none⟩), .string nm] w fun x w' => LD w w' (ldC d nm) (ldB d nm) x := by
  have HR := pd_rd nm hk w h ho (by omega)
  have hlen := ok_rb ho nm
  unfold ldC ldB
  obtain ⟨rc, hrc⟩ : ∃ rc, d.rc nm = rc := ⟨_, rfl⟩
  obtain ⟨rb, hrb⟩ : ∃ rb, d.rb nm = rb := ⟨_, rfl⟩
  rw [hrb] at hlen
  rw [hrc, hrb] at HR ⊢
  clear hrc hrb h ho
  by_cases h0 : rc = 0
  · subst h0
    rw [if_pos rfl, if_pos rfl]
    obtain ⟨q, hq⟩ : ∃ q, wholeB rb = q := ⟨_, rfl⟩
    rw [hq]
    cases q with
    | true =>
      rw [if_pos rfl, if_pos rfl]
      have h4 : 4 ≤ rb.length := Nat.le_of_not_lt fun h => by rw [wholeB_short h] at hq; cases hq
      obtain ⟨m, hm⟩ : ∃ m, rb.length = m + 4 := ⟨rb.length - 4, by omega⟩
      have e1 : rb.length - 4 = m := by omega
      rw [e1]
      go_enter Tryz.func58, Tryz.ntmps58
      go_upto_region 2 with (((with_reducible refine (HR).mono ?_); rintro z w1 ⟨A, n, c, rfl, hown, hb1⟩))
      obtain rfl : rb.length = n := hown.length
      have hrd := hown.rd
      have HB := Lib.hid hb1
      clear HR hown hb1
      have HW := whole_any A rb.length c rb w1 hrd (by omega)
      rw [hq] at HW
      have hrl := hrd.take (k := m) (by omega) (c' := c) (by have := hrd.le; omega) (Nat.le_refl _)
      have hle := hrd.le
      rw [hm] at HW hle ⊢
      have HRL := Lib.hid hrl
      have hs1 : IntKind.i64.wrap (((m + 4 : Nat) : Int) - 4) = (m : Int) := by rw [IntWalk.i64_in _ (by have := hrd.max; unfold maxLen at this; omega)]; omega
      have hs2 : (((m + 4 : Nat) : Int) - 4) = (m : Int) := by omega
      have hs3 : (((m : Int) + 4) - 4) = (m : Int) := by omega
      have hs4 : IntKind.i64.wrap (m : Int) = (m : Int) := IntWalk.i64_in _ (by have := hrd.max; unfold maxLen at this; omega)
      clear hrl hrd hm e1 hlen h4 hq
      go_wp2_with (((with_reducible refine (HW).mono ?_); rintro z w2 ⟨rfl, hb2⟩))
      exact bodyPost_ret (v := .tuple #[.slice A m c, .int .i64 0]) (by simp [results, Tryz.results58, go_sem]) rfl ⟨A, m, c, rfl, (HRL.out.below hb2).more hb2.size, chain HB.out hb2⟩
    | false =>
      rw [if_neg (by simp), if_neg (by simp)]
      go_enter Tryz.func58, Tryz.ntmps58
      go_upto_region 2 with (((with_reducible refine (HR).mono ?_); rintro z w1 ⟨A, n, c, rfl, hown, hb1⟩))
      obtain rfl : rb.length = n := hown.length
      have hrd := hown.rd
      have HB := Lib.hid hb1
      clear HR hown hb1
      have HW := whole_any A rb.length c rb w1 hrd (by omega)
      rw [hq] at HW
      clear hrd hlen hq
      go_wp2_with (((with_reducible refine (HW).mono ?_); rintro z w2 ⟨rfl, hb2⟩))
      exact bodyPost_ret (v := .tuple #[.slice none 0 0, .int .i64 5]) (by simp [results, Tryz.results58, go_sem]) rfl ⟨none, 0, 0, rfl, RdB.nil, chain HB.out hb2⟩
  · rw [if_neg h0, if_neg h0]
    have hn : (rc == 0) = false := by simpa using h0
    have hn2 : (rc != 0) = true := by simpa using h0
    go_enter Tryz.func58, Tryz.ntmps58
    go_upto_region 2 with (((with_reducible refine (HR).mono ?_); rintro z w1 ⟨A, n, c, rfl, hown, hb1⟩))
    obtain rfl : rb.length = n := hown.length
    have hrd := hown.rd
    have HB := Lib.hid hb1
    clear HR hown hb1
    clear hrd hlen h0
    go_wp2_with fail
    exact bodyPost_ret (v := .tuple #[.slice none 0 0, .int .i64 rc]) (by simp [results, Tryz.results58, go_sem]) rfl ⟨none, 0, 0, rfl, RdB.nil, HB.out⟩
set_option maxRecDepth 100000 in
set_option maxHeartbeats 4000000 in
theorem rsave_any (hnm1 : 1 ≤ nm.size) (hnm : nm.size + 1 ≤ maxLen) (w : World) (hd : IsR w gr d) (ho : d.Ok M K) (hM : M ≤ 10000000) (hK : K ≤ 100000) (hr : RdB w w.heap.size P n pc b) (hn : n ≤ 1000000) :
    Calls Tryz.prog 53 #[.pointer (some ⟨gr, 0, none⟩), .string nm, .slice P n pc] w fun x w' => RSV w w' gr d (svO d (spF nm) nm b) x := by
  have he := emptyS_iff nm
  rw [decide_eq_true hnm1] at he
  have hsps : (spF nm).size ≤ maxLen := by rw [spF_size]; exact hnm
  have hmx := hnm
  unfold maxLen at hmx
  have g1 : ¬ 9223372036854775807 < nm.size + 1 := by omega
  have g2 : ¬ (9223372036854775807 : Int) < (nm.size : Int) + 1 := by omega
  have g3 : (⟨#[126]⟩ : ByteArray).size = 1 := rfl
  have g4 : nm ++ (⟨#[126]⟩ : ByteArray) = spF nm := rfl
  generalize spF nm = sp at *
  have hbl : b.length = n := hr.length
  have hrdv : ∀ v, Mod (fun i _ => i = gr) w v → RdB v v.heap.size P n pc b := fun v hm => hd.rdb hr (Nat.le_refl _) hm
  have HRD := Lib.hid hrdv
  have HA := fun (D : PD) (ho : D.Ok M K) (v : World) (h : IsR v gr D) => rd_ap sp (slL b) v h ho (by omega) (by omega) (by rw [show (slL b).length = n + 4 from by unfold slL; rw [List.length_append, hbl]; rfl]; omega)
  have HRM := rd_rm sp w hd ho (by omega)
  obtain ⟨o0, ho0⟩ : ∃ o, d.rmO sp = o := ⟨_, rfl⟩
  have hok0 := ok_rm ho sp
  rw [ho0] at hok0 HRM
  have HO0 := Lib.hid ho0
  clear ho0 hd hr hrdv
  go_enter Tryz.func53, Tryz.ntmps53
  go_upto_region 4 with (((with_reducible refine (HRM).mono ?_); rintro z w1 ⟨rfl, hm1, hd1⟩))
  have HM := Lib.hid hm1
  have HD := Lib.hid hd1
  clear HRM hm1 hd1
  by_cases h06 : o0.code = 0 ∨ o0.code = 6
  rotate_left
  ·
    have n0 : ¬ o0.code = 0 := fun h => h06 (.inl h)
    have n6 : ¬ o0.code = 6 := fun h => h06 (.inr h)
    have nb0 : (o0.code != 0) = true := by simpa using n0
    have nb6 : (o0.code != 6) = true := by simpa using n6
    have nc0 : (o0.code == 0) = false := by simpa using n0
    have nc6 : (o0.code == 6) = false := by simpa using n6
    have N0 := Lib.hid n0
    have N6 := Lib.hid n6
    clear h06 n0 n6
    go_wp2_with fail
    go_ret
    rw [svO_0 HO0.out N0.out N6.out]
    exact ⟨rfl, HM.out, HD.out⟩
  have hsv : svO d sp nm b = sv3 (d.out o0) sp nm b := by unfold svO; rw [HO0.out, if_pos h06]
  have HE := Lib.hid hsv
  clear hsv
  obtain ⟨o1, ho1⟩ : ∃ o, (d.out o0).apO sp (slL b) = o := ⟨_, rfl⟩
  have hok1 := (ok_ap hok0 sp hsps (slL b)).mono (show M + (slL b).length ≤ 20000000 by unfold slL; rw [List.length_append, hbl]; show M + (n + 4) ≤ _; omega) (show K + 1 ≤ 200000 by omega)
  rw [ho1] at hok1
  have HA1 := fun v (h : IsR v gr (d.out o0)) => HA _ hok0 v h
  rw [ho1] at HA1
  have HO1 := Lib.hid ho1
  clear ho1 HA
  have hfc : (⟨b.toArray⟩ : ByteArray) ++ ⟨(fourL (ofN b)).toArray⟩ = ⟨(slL b).toArray⟩ := cat_str b (fourL (ofN b))
  have hf1 : ¬ 9223372036854775807 < (⟨b.toArray⟩ : ByteArray).size + (⟨(fourL (ofN b)).toArray⟩ : ByteArray).size := by
    rw [show (⟨b.toArray⟩ : ByteArray).size = b.length from by simp [ByteArray.size], show (⟨(fourL (ofN b)).toArray⟩ : ByteArray).size = 4 from by simp [ByteArray.size, fourL]]; omega
  have hf2 : ¬ 9223372036854775807 < n + (fourL (ofN b)).length := by rw [show (fourL (ofN b)).length = 4 from rfl]; omega
  have hf3 : ¬ 9223372036854775807 < b.length + (fourL (ofN b)).length := by rw [hbl]; exact hf2
  have hof := of_lt b
  obtain ⟨fz, hfz⟩ : ∃ fz, ofN b = fz := ⟨_, rfl⟩
  rw [hfz] at hfc hf1 hf2 hf3 hof
  generalize (⟨(slL b).toArray⟩ : ByteArray) = slv at *
  rcases h06 with h06 | h06
  ·
    go_upto_region 6 with fail
    clear h06
    refine region_any (by kernel_rfl) ?_
    change wpAny _ _ _ _ _ _ _ (World.drew _)
    have hd2 := HD.out.drew
    have hm2 := HM.out.drew
    generalize World.drew _ = w2 at *
    have hrd2 := HRD.out _ hm2
    have hcv : ∀ wS, Below w2.heap.size w2 wS → _ := fun wS hS => conv_str (hrd2.below hS)
    have HOF := of_ref P n pc w2.heap.size b w2 hrd2
    rw [hfz] at HOF
    have HFO := four_ref fz hof w2
    refine stage 10 ?_
    refine tag [0,1,2,3,4,5] ?_
    iterate 6 (
      refine sR (v := ?_) rfl (by kernel_rfl) (fun _ _ _ h => h) (Or.inl ⟨by kernel_rfl, ?_⟩) ?_
      rotate_left
      · (intro wS hwS; obtain ⟨hcS, hfS, hhS⟩ := bcell hwS; go_simp; try (first | (with_reducible rfl) | rw [if_pos (by omega)] | rw [if_neg (by omega)]))
      try simp only [PT])
    refine tagN ?_
    refine stage_one 6 (by kernel_rfl) rfl (by kernel_rfl) (fun K hK => ?_)
    go_simp
    refine HOF.mono ?_
    rintro z w3 ⟨rfl, rfl⟩
    refine hK.out _ _ ((Below.refl _ _)) ?_
    clear hK K
    try simp only [PT]

    refine stage_one 7 (by kernel_rfl) rfl (by kernel_rfl) (fun K hK => ?_)
    go_simp
    refine HFO.mono ?_
    rintro z w3 ⟨A3, rfl, hown3, hb3⟩
    refine hK.out _ _ (hb3) ?_
    clear hK K
    try simp only [PT]
    have hd3 := hd2.step hb3
    have hm3 := hm2.below hb3
    have hr3 := hown3.rd
    have hcv3 : ∀ wS, Below w3.heap.size w3 wS → _ := fun wS hS => conv_str (hr3.below hS)
    clear HOF HFO hcv hown3
    refine tag [8,9] ?_
    iterate 2 (
      refine sR (v := ?_) rfl (by kernel_rfl) (fun _ _ _ h => h) (Or.inl ⟨by kernel_rfl, ?_⟩) ?_
      rotate_left
      · (intro wS hwS; obtain ⟨hcS, hfS, hhS⟩ := bcell hwS; go_simp; try (first | (with_reducible rfl) | rw [if_pos (by omega)] | rw [if_neg (by omega)]))
      try simp only [PT])
    refine tagN ?_
    refine stage_end (by kernel_rfl) rfl (fun K hK => ?_)
    go_simp
    refine (HA1 _ hd3).mono ?_
    rintro z w4 ⟨rfl, hm4, hd4⟩
    refine hK.out _ _ ?_
    clear hK K
    try simp only [PT]
    first | refine stage 1000000 ?_ | skip
    refine tag [11] ?_
    refine sR (v := ?_) rfl (by kernel_rfl) (fun _ _ _ h => h) (Or.inl ⟨by kernel_rfl, ?_⟩) ?_
    rotate_left
    · (intro wS hwS; obtain ⟨hcS, hfS, hhS⟩ := bcell hwS; go_simp; try (first | (with_reducible rfl) | rw [if_pos (by omega)] | rw [if_neg (by omega)]))
    try simp only [PT]
    refine tagN ?_
    first | refine wpAnyT_done (by kernel_rfl) ?_ _ | refine wpAny_done (by kernel_rfl) ?_ _
    replace HM := Lib.hid (hm3.trans hm4)
    replace HD := Lib.hid hd4
    clear hd2 hm2 hrd2 hb3 hd3 hm3 hr3 hcv3 hm4 hd4 HA1
    by_cases hc : o1.code = 0
    rotate_left
    ·
      have hcb : (o1.code == 0) = false := by simpa using hc
      have hcn : (o1.code != 0) = true := by simpa using hc
      have HQ := Lib.hid hc
      clear hc
      go_wp2_with fail
      go_ret
      rw [show svO d sp nm b = o1 from HE.out.trans (sv3_1 HO1.out HQ.out)]
      exact ⟨rfl, HM.out, HD.out⟩
    have HC1 := Lib.hid hc
    obtain ⟨o2, ho2⟩ : ∃ o, ((d.out o0).out o1).syO sp = o := ⟨_, rfl⟩
    have HSY := rd_sy sp w4 HD.out hok1 (by omega)
    have hok2 := ok_sy hok1 sp hsps
    rw [ho2] at HSY hok2
    have HO2 := Lib.hid ho2
    clear ho2
    go_upto_region 10 with (((with_reducible refine (HSY).mono ?_); rintro z w5 ⟨rfl, hm5, hd5⟩))
    replace HM := Lib.hid (HM.out.trans hm5)
    replace HD := Lib.hid hd5
    clear hc HSY hm5 hd5
    by_cases hc : o2.code = 0
    rotate_left
    ·
      have hcb : (o2.code == 0) = false := by simpa using hc
      have hcn : (o2.code != 0) = true := by simpa using hc
      have HQ := Lib.hid hc
      clear hc
      go_wp2_with fail
      go_ret
      rw [show svO d sp nm b = o2 from HE.out.trans (sv3_2 HO1.out HC1.out HO2.out HQ.out)]
      exact ⟨rfl, HM.out, HD.out⟩
    have HC2 := Lib.hid hc
    obtain ⟨o3, ho3⟩ : ∃ o, (((d.out o0).out o1).out o2).reO sp nm = o := ⟨_, rfl⟩
    have HRE := rd_re sp nm w5 HD.out hok2 (by omega)
    rw [ho3] at HRE
    have HO3 := Lib.hid ho3
    clear ho3
    go_wp2_with (((with_reducible refine (HRE).mono ?_); rintro z w6 ⟨rfl, hm6, hd6⟩))
    go_ret
    rw [show svO d sp nm b = o3 from HE.out.trans (sv3_3 HO1.out HC1.out HO2.out HC2.out HO3.out)]
    exact ⟨rfl, HM.out.trans hm6, hd6⟩
  ·
    go_upto_region 6 with fail
    clear h06
    refine region_any (by kernel_rfl) ?_
    change wpAny _ _ _ _ _ _ _ (World.drew _)
    have hd2 := HD.out.drew
    have hm2 := HM.out.drew
    generalize World.drew _ = w2 at *
    have hrd2 := HRD.out _ hm2
    have hcv : ∀ wS, Below w2.heap.size w2 wS → _ := fun wS hS => conv_str (hrd2.below hS)
    have HOF := of_ref P n pc w2.heap.size b w2 hrd2
    rw [hfz] at HOF
    have HFO := four_ref fz hof w2
    refine stage 10 ?_
    refine tag [0,1,2,3,4,5] ?_
    iterate 6 (
      refine sR (v := ?_) rfl (by kernel_rfl) (fun _ _ _ h => h) (Or.inl ⟨by kernel_rfl, ?_⟩) ?_
      rotate_left
      · (intro wS hwS; obtain ⟨hcS, hfS, hhS⟩ := bcell hwS; go_simp; try (first | (with_reducible rfl) | rw [if_pos (by omega)] | rw [if_neg (by omega)]))
      try simp only [PT])
    refine tagN ?_
    refine stage_one 6 (by kernel_rfl) rfl (by kernel_rfl) (fun K hK => ?_)
    go_simp
    refine HOF.mono ?_
    rintro z w3 ⟨rfl, rfl⟩
    refine hK.out _ _ ((Below.refl _ _)) ?_
    clear hK K
    try simp only [PT]

    refine stage_one 7 (by kernel_rfl) rfl (by kernel_rfl) (fun K hK => ?_)
    go_simp
    refine HFO.mono ?_
    rintro z w3 ⟨A3, rfl, hown3, hb3⟩
    refine hK.out _ _ (hb3) ?_
    clear hK K
    try simp only [PT]
    have hd3 := hd2.step hb3
    have hm3 := hm2.below hb3
    have hr3 := hown3.rd
    have hcv3 : ∀ wS, Below w3.heap.size w3 wS → _ := fun wS hS => conv_str (hr3.below hS)
    clear HOF HFO hcv hown3
    refine tag [8,9] ?_
    iterate 2 (
      refine sR (v := ?_) rfl (by kernel_rfl) (fun _ _ _ h => h) (Or.inl ⟨by kernel_rfl, ?_⟩) ?_
      rotate_left
      · (intro wS hwS; obtain ⟨hcS, hfS, hhS⟩ := bcell hwS; go_simp; try (first | (with_reducible rfl) | rw [if_pos (by omega)] | rw [if_neg (by omega)]))
      try simp only [PT])
    refine tagN ?_
    refine stage_end (by kernel_rfl) rfl (fun K hK => ?_)
    go_simp
    refine (HA1 _ hd3).mono ?_
    rintro z w4 ⟨rfl, hm4, hd4⟩
    refine hK.out _ _ ?_
    clear hK K
    try simp only [PT]
    first | refine stage 1000000 ?_ | skip
    refine tag [11] ?_
    refine sR (v := ?_) rfl (by kernel_rfl) (fun _ _ _ h => h) (Or.inl ⟨by kernel_rfl, ?_⟩) ?_
    rotate_left
    · (intro wS hwS; obtain ⟨hcS, hfS, hhS⟩ := bcell hwS; go_simp; try (first | (with_reducible rfl) | rw [if_pos (by omega)] | rw [if_neg (by omega)]))
    try simp only [PT]
    refine tagN ?_
    first | refine wpAnyT_done (by kernel_rfl) ?_ _ | refine wpAny_done (by kernel_rfl) ?_ _
    replace HM := Lib.hid (hm3.trans hm4)
    replace HD := Lib.hid hd4
    clear hd2 hm2 hrd2 hb3 hd3 hm3 hr3 hcv3 hm4 hd4 HA1
    by_cases hc : o1.code = 0
    rotate_left
    ·
      have hcb : (o1.code == 0) = false := by simpa using hc
      have hcn : (o1.code != 0) = true := by simpa using hc
      have HQ := Lib.hid hc
      clear hc
      go_wp2_with fail
      go_ret
      rw [show svO d sp nm b = o1 from HE.out.trans (sv3_1 HO1.out HQ.out)]
      exact ⟨rfl, HM.out, HD.out⟩
    have HC1 := Lib.hid hc
    obtain ⟨o2, ho2⟩ : ∃ o, ((d.out o0).out o1).syO sp = o := ⟨_, rfl⟩
    have HSY := rd_sy sp w4 HD.out hok1 (by omega)
    have hok2 := ok_sy hok1 sp hsps
    rw [ho2] at HSY hok2
    have HO2 := Lib.hid ho2
    clear ho2
    go_upto_region 10 with (((with_reducible refine (HSY).mono ?_); rintro z w5 ⟨rfl, hm5, hd5⟩))
    replace HM := Lib.hid (HM.out.trans hm5)
    replace HD := Lib.hid hd5
    clear hc HSY hm5 hd5
    by_cases hc : o2.code = 0
    rotate_left
    ·
      have hcb : (o2.code == 0) = false := by simpa using hc
      have hcn : (o2.code != 0) = true := by simpa using hc
      have HQ := Lib.hid hc
      clear hc
      go_wp2_with fail
      go_ret
      rw [show svO d sp nm b = o2 from HE.out.trans (sv3_2 HO1.out HC1.out HO2.out HQ.out)]
      exact ⟨rfl, HM.out, HD.out⟩
    have HC2 := Lib.hid hc
    obtain ⟨o3, ho3⟩ : ∃ o, (((d.out o0).out o1).out o2).reO sp nm = o := ⟨_, rfl⟩
    have HRE := rd_re sp nm w5 HD.out hok2 (by omega)
    rw [ho3] at HRE
    have HO3 := Lib.hid ho3
    clear ho3
    go_wp2_with (((with_reducible refine (HRE).mono ?_); rintro z w6 ⟨rfl, hm6, hd6⟩))
    go_ret
    rw [show svO d sp nm b = o3 from HE.out.trans (sv3_3 HO1.out HC1.out HO2.out HC2.out HO3.out)]
    exact ⟨rfl, HM.out.trans hm6, hd6⟩
end
end Go.Proofs.YtnkjekkdndjfaaaGreat
namespace Go.Proofs.YtnkjekkdndjfaaaGreat
set_option linter.unusedVariables false
set_option linter.unusedSimpArgs false
open Go.RowKit
theorem findF_without : ∀ (l : List Fi) (k j : ByteArray), findF (withoutF l k) j = if j = k then none else findF l j
  | [], k, j => by unfold withoutF findF; simp
  | x :: l, k, j => by
    have ih := findF_without l k j
    by_cases hx : x.k = k
    · have e : withoutF (x :: l) k = withoutF l k := by unfold withoutF; rw [List.filter_cons, if_neg (by simp [hx])]
      rw [e, ih, findF_cons]
      by_cases hj : j = k
      · rw [if_pos hj, if_pos hj]
      · rw [if_neg hj, if_neg hj, if_neg (by rw [hx]; exact fun e => hj e.symm)]
    · have e : withoutF (x :: l) k = x :: withoutF l k := by unfold withoutF; rw [List.filter_cons, if_pos (by simp [hx])]
      rw [e, findF_cons, findF_cons, ih]
      by_cases hj : j = k
      · rw [if_pos hj, if_pos hj, if_neg (by rw [hj]; exact hx)]
      · rw [if_neg hj, if_neg hj]
theorem wr_false (armed : Bool) (left : Int) : ((wrP false armed left).code = 0 ∧ (wrP false armed left).lost = false ∧ (wrP false armed left).left = (if armed then left - 1 else left) ∧ ¬ (armed = true ∧ left = 0)) ∨ ((wrP false armed left).code = 12 ∧ (wrP false armed left).lost = true ∧ armed = true ∧ left = 0) := by
  unfold wrP
  cases armed
  · exact .inl ⟨rfl, rfl, rfl, by simp⟩
  · by_cases h0 : left = 0
    · exact .inr ⟨by simp [h0], by simp [h0], rfl, h0⟩
    · exact .inl ⟨by simp [h0], by simp [h0], by simp [h0], by simp [h0]⟩
def decL (d : PD) : Int := if d.armed then d.left - 1 else d.left
/-- an operation: done, or the disk is lost -/
def StO (d : PD) (o : Out) (yes : List Fi → Prop) (no : List Fi → Prop) : Prop :=
  (o.code = 0 ∧ o.lost = false ∧ o.left = decL d ∧ ¬ (d.armed = true ∧ d.left = 0) ∧ yes o.core) ∨ (o.code = 12 ∧ o.lost = true ∧ d.armed = true ∧ d.left = 0 ∧ no o.core)
section
variable {d : PD} {M K : Nat} {sp nm : ByteArray} {b : List UInt8}
theorem st_go {k : ByteArray} {new : List Fi} (hl : d.lost = false) (hf : (findF d.fs k).isSome = true) {yes no : List Fi → Prop} (hy : yes new) (hn : no d.fs) : StO d (goO d.fs k d.lost d.armed d.left false new) yes no := by
  unfold goO StO
  rw [if_neg (by rw [hf]; simp), if_neg (by simp), hl]
  simp only
  rcases wr_false d.armed d.left with ⟨h1, h2, h3, h4⟩ | ⟨h1, h2, h3, h4⟩
  · exact .inl ⟨h1, h2, h3, h4, by rw [if_pos h1]; exact hy⟩
  · exact .inr ⟨h1, h2, h3, h4, by rw [if_neg (by rw [h1]; decide)]; exact hn⟩
theorem st_rm (hl : d.lost = false) (hne : nm ≠ sp) : (d.rmO sp = ⟨6, d.fs, d.lost, d.left⟩ ∧ findF d.fs sp = none) ∨ StO d (d.rmO sp) (fun l => findF l sp = none ∧ findF l nm = findF d.fs nm) (fun l => findF l nm = findF d.fs nm) := by
  by_cases hf : (findF d.fs sp).isSome = true
  · exact .inr (st_go hl hf ⟨by rw [findF_without, if_pos rfl], by rw [findF_without, if_neg hne]⟩ rfl)
  · have hf2 : (findF d.fs sp).isSome = false := by simpa using hf
    refine .inl ⟨by unfold PD.rmO rmO goO; rw [if_pos hf2], ?_⟩
    cases h : findF d.fs sp with
    | none => rfl
    | some x => rw [h] at hf2; cases hf2
theorem st_ap (hl : d.lost = false) (ha : AscF d.fs) (hk : sp.size ≠ 0) (hne : nm ≠ sp) (hn : findF d.fs sp = none) : StO d (d.apO sp (slL b)) (fun l => findF l sp = some ⟨sp, slL b, none, 0, 0, 0⟩ ∧ findF l nm = findF d.fs nm) (fun l => findF l nm = findF d.fs nm) := by
  unfold PD.apO apO StO
  rw [if_neg hk, hl, if_neg (by simp), getF_none hn]
  simp only
  have h1 := findF_apply ⟨sp, Fi.zero.b ++ slL b, none, 0, 0, Fi.zero.s⟩ false ha
  have e1 : findF (applyF ⟨sp, Fi.zero.b ++ slL b, none, 0, 0, Fi.zero.s⟩ false d.fs) sp = some ⟨sp, slL b, none, 0, 0, 0⟩ := by rw [h1, if_pos rfl]; rfl
  have e2 : findF (applyF ⟨sp, Fi.zero.b ++ slL b, none, 0, 0, Fi.zero.s⟩ false d.fs) nm = findF d.fs nm := by rw [h1, if_neg hne]
  rcases wr_false d.armed d.left with ⟨q1, q2, q3, q4⟩ | ⟨q1, q2, q3, q4⟩
  · exact .inl ⟨q1, q2, q3, q4, e1, e2⟩
  · exact .inr ⟨q1, q2, q3, q4, e2⟩
theorem st_sy (hl : d.lost = false) (ha : AscF d.fs) (hne : nm ≠ sp) (hn : findF d.fs sp = some ⟨sp, slL b, none, 0, 0, 0⟩) : StO d (d.syO sp) (fun l => findF l sp = some ⟨sp, slL b, none, 0, 0, ((slL b).length : Int)⟩ ∧ findF l nm = findF d.fs nm) (fun l => findF l nm = findF d.fs nm) := by
  refine st_go hl (by rw [hn]; rfl) ?_ rfl
  rw [getF_some hn]
  simp only
  have h1 := findF_apply ⟨sp, slL b, none, 0, 0, ((slL b).length : Int)⟩ false ha
  exact ⟨by rw [h1, if_pos rfl]; rfl, by rw [h1, if_neg hne]⟩
theorem st_re (hl : d.lost = false) (ha : AscF d.fs) (hk : nm.size ≠ 0) (hne : nm ≠ sp) (hn : findF d.fs sp = some ⟨sp, slL b, none, 0, 0, ((slL b).length : Int)⟩) : StO d (d.reO sp nm) (fun l => findF l nm = some ⟨nm, slL b, none, 0, 0, ((slL b).length : Int)⟩) (fun l => findF l nm = findF d.fs nm) := by
  unfold PD.reO reO
  rw [decide_eq_false hk, decide_eq_false hne, Bool.or_false]
  refine st_go hl (by rw [hn]; rfl) ?_ rfl
  rw [getF_some hn]
  simp only
  have h1 := findF_apply ⟨nm, slL b, none, 0, 0, ((slL b).length : Int)⟩ false (asc_without ha sp)
  rw [h1, if_pos rfl]
  rfl
theorem spF_ne (nm : ByteArray) : nm ≠ spF nm := fun e => by
  have := congrArg ByteArray.size e
  rw [spF_size] at this
  omega
/-- what Save leaves: the new bytes, or the old ones, and the disk is lost -/
theorem sv_two (hl : d.lost = false) (ho : d.Ok M K) (h1 : 1 ≤ nm.size) (h2 : nm.size + 1 ≤ maxLen) :
    ((svO d (spF nm) nm b).code = 0 ∧ (svO d (spF nm) nm b).lost = false ∧ findF (svO d (spF nm) nm b).core nm = some ⟨nm, slL b, none, 0, 0, ((slL b).length : Int)⟩ ∧ (d.armed = true → 3 ≤ d.left)) ∨
    ((svO d (spF nm) nm b).code = 12 ∧ d.armed = true ∧ findF (svO d (spF nm) nm b).core nm = findF d.fs nm) := by
  have hne := spF_ne nm
  have hsz : (spF nm).size ≠ 0 := by rw [spF_size]; omega
  have hsm : (spF nm).size ≤ maxLen := by rw [spF_size]; exact h2
  generalize spF nm = sp at *
  -- from a disk without the spare file
  have go : ∀ (D : PD) (M' K' : Nat), D.lost = false → D.Ok M' K' → findF D.fs sp = none →
      ((sv3 D sp nm b).code = 0 ∧ (sv3 D sp nm b).lost = false ∧ findF (sv3 D sp nm b).core nm = some ⟨nm, slL b, none, 0, 0, ((slL b).length : Int)⟩ ∧ (D.armed = true → 3 ≤ D.left)) ∨ ((sv3 D sp nm b).code = 12 ∧ D.armed = true ∧ findF (sv3 D sp nm b).core nm = findF D.fs nm) := by
    intro D M' K' hl ho hn
    unfold sv3
    have hA := st_ap (b := b) hl ho.asc hsz hne hn
    have hok1 := ok_ap ho sp hsm (slL b)
    have hL0 := ho.left0
    generalize D.apO sp (slL b) = o1 at *
    rcases hA with ⟨q1, q2, q3, q4, q5, q6⟩ | ⟨q1, q2, q3, q4, q5⟩
    · rw [if_pos q1]
      unfold sv2
      have hS := st_sy (d := D.out o1) (b := b) q2 hok1.asc hne q5
      have hok2 := ok_sy hok1 sp hsm
      generalize (D.out o1).syO sp = o2 at *
      rcases hS with ⟨r1, r2, r3, r4, r5, r6⟩ | ⟨r1, r2, r3, r4, r5⟩
      · rw [if_pos r1]
        unfold sv1
        have hR := st_re (d := (D.out o1).out o2) (b := b) r2 hok2.asc (by omega) hne r5
        generalize ((D.out o1).out o2).reO sp nm = o3 at *
        rcases hR with ⟨t1, t2, t3, t4, t5⟩ | ⟨t1, t2, t3, t4, t5⟩
        · refine .inl ⟨t1, t2, t5, fun ha => ?_⟩
          have e1 : o1.left = D.left - 1 := by rw [q3]; unfold decL; rw [if_pos ha]
          have e2 : o2.left = D.left - 1 - 1 := by rw [r3]; unfold decL; show (if D.armed = true then o1.left - 1 else o1.left) = _; rw [if_pos ha, e1]
          have n1 : D.left ≠ 0 := fun e => q4 ⟨ha, e⟩
          have n2 : o1.left ≠ 0 := fun e => r4 ⟨ha, e⟩
          have n3 : o2.left ≠ 0 := fun e => t4 ⟨ha, e⟩
          omega
        · exact .inr ⟨t1, t3, by rw [t5]; show findF o2.core nm = _; rw [r6]; exact q6⟩
      · rw [if_neg (by rw [r1]; decide)]
        exact .inr ⟨r1, r3, by rw [r5]; exact q6⟩
    · rw [if_neg (by rw [q1]; decide)]
      exact .inr ⟨q1, q3, q5⟩
  unfold svO
  have hok0 := ok_rm ho sp
  rcases st_rm (nm := nm) hl hne with ⟨e, hn⟩ | hS
  · rw [e, if_pos (.inr rfl)]
    exact go (d.out ⟨6, d.fs, d.lost, d.left⟩) M K hl ho hn
  · generalize d.rmO sp = o0 at *
    rcases hS with ⟨q1, q2, q3, q4, q5, q6⟩ | ⟨q1, q2, q3, q4, q5⟩
    · rw [if_pos (.inl q1)]
      rcases go (d.out o0) M K q2 hok0 q5 with ⟨r1, r2, r3, r4⟩ | ⟨r1, r2, r3⟩
      · refine .inl ⟨r1, r2, r3, fun ha => ?_⟩
        have := r4 ha
        have e : o0.left = d.left - 1 := by rw [q3]; unfold decL; rw [if_pos ha]
        have e2 : (d.out o0).left = o0.left := rfl
        omega
      · exact .inr ⟨r1, r2, by rw [r3]; exact q6⟩
    · rw [if_neg (by rw [q1]; decide)]
      exact .inr ⟨q1, q3, q5⟩
/-- a file all of which is sure stays through a crash -/
theorem crash_sure {ks : List Nat} : ∀ {l : List Fi} {i : Nat} {x : Fi}, findF l nm = some x → x.core = x → 0 ≤ x.s → x.s = (x.b.length : Int) → findF (crashF ks i l) nm = some x := by
  intro l
  induction l with
  | nil => intro i x h; unfold findF at h; simp at h
  | cons y l ih =>
    intro i x h hc h0 hs
    rw [crashF, findF_cons]
    rw [findF_cons] at h
    by_cases hy : y.k = nm
    · rw [if_pos hy] at h
      obtain rfl := Option.some.inj h
      rw [if_pos (show (crashX ks i y).k = nm from hy)]
      have hn : crashN ks i y = y.b.length := by
        unfold crashN
        split <;> (try rw [show y.b.length - y.s.toNat + 1 = 1 by omega, Nat.mod_one]) <;> omega
      congr 1
      unfold crashX
      rw [hn, List.take_length, ← hs]
      exact hc
    · rw [if_neg hy] at h
      rw [if_neg (show ¬ (crashX ks i y).k = nm from hy)]
      exact ih h hc h0 hs
theorem ld_sure (hl : d.lost = false) {a : List UInt8} (h : findF d.fs nm = some ⟨nm, slL a, none, 0, 0, ((slL a).length : Int)⟩) : ldC d nm = 0 ∧ ldB d nm = a := by
  have h1 : d.rc nm = 0 := by unfold PD.rc rdCode; rw [h, hl]; rfl
  have h2 : d.rb nm = slL a := by unfold PD.rb rdBytes; rw [getF_some h, h, hl]; rfl
  unfold ldC ldB
  rw [h1, h2]
  have hw : wholeB (slL a) = true := wholeB_sealed a
  rw [if_pos rfl, if_pos rfl, hw, if_pos rfl, if_pos rfl]
  refine ⟨rfl, ?_⟩
  unfold slL
  rw [List.length_append, show (fourL (ofN a)).length = 4 from rfl, Nat.add_sub_cancel, List.take_left]
theorem sv_ok (ho : d.Ok M K) (h2 : (spF nm).size ≤ maxLen) (h3 : nm.size ≤ maxLen) : (d.out (svO d (spF nm) nm b)).Ok (M + (slL b).length) (K + 1) := by
  have hok0 := ok_rm ho (spF nm)
  have hm : ∀ {D : PD}, D.Ok M K → D.Ok (M + (slL b).length) (K + 1) := fun h => h.mono (by omega) (by omega)
  unfold svO
  split
  · unfold sv3
    have hok1 := ok_ap hok0 (spF nm) h2 (slL b)
    split
    · unfold sv2
      have hok2 := ok_sy hok1 (spF nm) h2
      split
      · exact ok_re hok2 (spF nm) nm h3
      · exact hok2
    · exact hok1
  · exact hm hok0
end
end Go.Proofs.YtnkjekkdndjfaaaGreat
namespace Go.Proofs.YtnkjekkdndjfaaaGreat
set_option linter.unusedVariables false
set_option linter.unusedSimpArgs false
open Go.RowKit
abbrev sN : ByteArray := ⟨#[115]⟩
theorem sN_hi : sN.size + 1 ≤ maxLen := by show (2 : Nat) ≤ maxLen; simp only [maxLen]; omega
theorem sN_lo : 1 ≤ sN.size := Nat.le_refl 1
theorem sN_mx : sN.size ≤ maxLen := by show (1 : Nat) ≤ maxLen; simp only [maxLen]; omega
theorem sN_sp : (spF sN).size ≤ maxLen := by rw [spF_size]; exact sN_hi
theorem sN_eq : spF sN = ⟨#[115, 126]⟩ := rfl
theorem slL_len (b : List UInt8) : (slL b).length = b.length + 4 := by unfold slL; rw [List.length_append]; rfl
theorem mod2s {w w' : World} {B gd bd : Nat} (hm : Mod (fun i _ => i = gd ∨ i = bd) w w') (h2 : B ≤ gd) (h3 : B ≤ bd) (hB : B ≤ w.heap.size) : Below B w w' :=
  hm.toBelow (fun i o hi e => by rcases e with e | e <;> omega) hB
end Go.Proofs.YtnkjekkdndjfaaaGreat
