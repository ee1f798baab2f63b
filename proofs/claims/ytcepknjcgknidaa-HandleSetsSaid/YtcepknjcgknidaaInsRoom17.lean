
/- Chapter 17: slices.Insert of one count, in place. -/
import Derived.Test.YtcepknjcgknidaaInsert17
import Derived.Test.YtcepknjcgknidaaCopyRaw17
namespace Go.Proofs.Ytcepknjcgknidaa
set_option linter.unusedVariables false
set_option linter.unusedSimpArgs false
open Go.RowKit
theorem overlaps_apart (w : World) (g gv o q : Nat) (lb cb kB : Nat) (tB : TypeId) (hne : gv ≠ g) (hsa : w.shape? gv = some (96, 2)) (hsb : w.shape? g = some (tB, kB)) (hkB : kB ≠ 0)
    (hfa : w.frozen? ⟨gv, 0, none⟩ = false) (hfe : w.frozen? ⟨gv, 2, none⟩ = false) :
    (callFunc 76 #[.slice (some ⟨gv, 0, none⟩) 1 1, .slice (some ⟨g, o, none⟩) lb cb]).run Try.prog w = .ok (.value (.bool false)) w := by
  have hz : ∀ w, (Go.sizeOf 96).run Try.prog w = .ok 2 w := by
    intro w
    obtain ⟨i0, hi0, hz0, hz1, hz2⟩ := info_parts info_ct
    simp [sizeOf, typeInfo, hi0, hz1]
  rw [run_callFunc_extern Try.func76 (by kernel_rfl) (by kernel_rfl) (by kernel_rfl) (e := Extern.SlicesOverlaps.overlaps #[60, 60] #[4]) (by kernel_rfl),
    Lib.run_overlaps_apart w 60 4 96 Try.underlying60 2 hz ⟨gv, 0, none⟩ ⟨g, o, none⟩ 1 1 lb cb hne 96 tB 2 kB hsa hsb hkB hfa hfe]
  rfl
theorem at_shape {w : World} {g : Nat} {t : TypeId} {cs : List Value} (h : At w g t cs) : w.shape? g = some (t, cs.length) := by
  unfold At at h
  simp [World.shape?, h]
theorem own_shape {w : World} {base n c g : Nat} {l : List Ct} (h : OwnC w base (some ⟨g, 0, none⟩) n c l) : w.shape? g = some (96, c * 2) := by
  rcases h.2 with ⟨e, _⟩ | ⟨g', cap, cur, e1, e2, e3, e4, e5, e6, e7⟩
  · cases e
  · injection e1 with e1 e1' e1''
    injection e1 with e1
    injection e1 with e1 _ _
    subst e1
    subst e1''
    simp [World.shape?, e3, e6]
set_option maxRecDepth 100000 in
set_option maxHeartbeats 4000000 in
theorem insert_room {base n c k g gv : Nat} {l : List Ct} {y : Ct} (w : World) (hown : OwnC w base (some ⟨g, 0, none⟩) n c l) (hv : At w gv 96 y.row) (hne : gv ≠ g) (hb : base ≤ w.heap.size) (hn : n ≤ 900000) (hk : k < n) (hc : n + 1 ≤ c) :
    Calls Try.prog 65 #[.slice (some ⟨g, 0, none⟩) n c, .int .i64 (k : Int), .slice (some ⟨gv, 0, none⟩) 1 1] w fun r w' =>
      ∃ A2 c2, r = .returned (.slice A2 (n + 1) c2) ∧ OwnC w' base A2 (n + 1) c2 ((l.take k ++ [y]) ++ l.drop k) ∧ Below base w w' := by
  have hmax := hown.rd.max
  unfold maxLen at hmax
  have hov := fun o lb cb => overlaps_apart w g gv o 0 lb cb (c * 2) 96 hne (at_shape hv) (own_shape hown) (by omega) (hv.frozen 0) (hv.frozen 2)
  have HO := Lib.hid hown
  have HV := Lib.hid hv
  clear hown hv
  have hkn : ¬ ((k : Int) = (n : Int)) := by omega
  have hcn : ¬ ((c : Int) < (n : Int) + 1) := by omega
  have hck2 : ¬ c = k + 1 := by omega
  have hck3 : ¬ c = k := by omega
  have hw1 : IntKind.i64.wrap ((k : Int) + 1) = (k : Int) + 1 := IntWalk.i64_in _ (by omega)
  have htn : ((k : Int) + 1).toNat = k + 1 := by omega
  have hk1 : (k : Int) ≤ (n : Int) + 1 := by omega
  have hk2 : (k : Int) + 1 ≤ (n : Int) + 1 := by omega
  have hk3 : (0 : Int) ≤ (k : Int) + 1 := by omega
  have hnc : (n : Int) + 1 ≤ (c : Int) := by omega
  go_enter Try.func65, Try.ntmps65
  go_upto_region 15 with (simp only [hov])
  clear hov
  refine region_any (by kernel_rfl) ?_
  change wpAny _ _ _ _ _ _ _ (World.drew _)
  have HV := Lib.hid HV.out.drew
  have hBd : Below base w w.drew := (Below.refl _ _).drew
  have hs0 : base ≤ w.drew.heap.size := hb
  obtain ⟨Z, hZ, hX⟩ := own_more (show w.drew.ownsRow _ _ _ _ _ _ from HO.out) hc
  have hll : (l.flatMap Ct.row).length = n * 2 := HO.out.1
  generalize World.drew _ = w4 at *
  have hsrc := (Rd.of_own hX).drop (k := k) (by omega)
  rw [if_neg hck3, Option.map_some, Addr.add_lit, Nat.zero_add] at hsrc
  have h3 : (((l.flatMap Ct.row) ++ Z).drop (k * 2)).take ((n - k) * 2) = (l.drop k).flatMap Ct.row := by
    rw [List.drop_append_of_le_length (by omega), List.take_left' (by rw [List.length_drop]; omega), rows_drop]
  obtain ⟨w5, hcp1, ho5, hg5⟩ := copy_raw (p := k + 1) (k := n - k) (dCap := c - (k + 1)) 3 hX hsrc (by rw [h3]; exact cts_one _) (by show n - k = min (n + 1 - k) (n + 1 - (k + 1)); omega) (by omega) (by omega)
  rw [show n + 1 - (k + 1) = n - k by omega] at hcp1
  have hv5 := HV.out.only hg5 hne
  have hrd : Rd w5 w5.heap.size 2 (some ⟨gv, 0, none⟩) 1 1 y.row := ⟨rfl, Nat.le_refl _, by simp [maxLen], fun _ => ⟨gv, 0, rfl, hv5.lt, fun j u hu => by rw [Nat.zero_add]; exact (hv5.cell j).trans hu⟩⟩
  obtain ⟨w6, hcp2, ho6, hg6⟩ := copy_raw (p := k) (k := 1) (dCap := c - k) 3 ho5 hrd (fun u hu => ct_one y u (List.mem_of_mem_take hu)) (by show 1 = min 1 (n + 1 - k); omega) (by omega) (by omega)
  rw [insert_raw _ Z y.row n k hll hZ rfl hk] at ho6
  have hgb : base ≤ g := by
    obtain ⟨g', e, h1, _⟩ := HO.out.form (by omega)
    injection e with e
    injection e with e _ _
    omega
  have hB6 : Below base w w6 := (hBd.trans ((Below.refl _ _).grown hg5 hs0 (by intro i hi; injection hi with hi; omega))).trans ((Below.refl _ _).grown hg6 (Nat.le_trans hs0 hg5.size) (by intro i hi; injection hi with hi; omega))
  have HO6 := Lib.hid ho6
  have HB6 := Lib.hid hB6
  have HC2 := Lib.hid hcp2
  clear ho6 hB6 hcp2 ho5 hg5 hg6 hrd hv5 h3 hsrc hX hBd hs0 HV HO hll hZ
  refine stage 8 ?_
  refine stage_read (i := 0) (v := ?_) rfl (by kernel_rfl) (by kernel_rfl) (by kernel_rfl) (by kernel_rfl) (by kernel_rfl) (by kernel_rfl) (fun _ _ _ h => h) (Or.inl ⟨by kernel_rfl, ?_⟩) ?_
  rotate_left
  · (intro wS hwS; obtain ⟨hcS, hfS, hhS⟩ := bcell hwS; go_simp; try (first | (with_reducible rfl) | rw [if_pos (by omega)] | rw [if_neg (by omega)]))
  try simp only [Act.put, List.getElem_toArray, List.getElem_cons_succ, List.getElem_cons_zero, List.setIfInBounds_toArray, List.set_cons_zero, List.set_cons_succ]
  refine stage_read (i := 1) (v := ?_) rfl (by kernel_rfl) (by kernel_rfl) (by kernel_rfl) (by kernel_rfl) (by kernel_rfl) (by kernel_rfl) (fun _ _ _ h => h) (Or.inl ⟨by kernel_rfl, ?_⟩) ?_
  rotate_left
  · (intro wS hwS; obtain ⟨hcS, hfS, hhS⟩ := bcell hwS; go_simp; try (first | (with_reducible rfl) | rw [if_pos (by omega)] | rw [if_neg (by omega)]))
  try simp only [Act.put, List.getElem_toArray, List.getElem_cons_succ, List.getElem_cons_zero, List.setIfInBounds_toArray, List.set_cons_zero, List.set_cons_succ]
  refine stage_read (i := 2) (v := ?_) rfl (by kernel_rfl) (by kernel_rfl) (by kernel_rfl) (by kernel_rfl) (by kernel_rfl) (by kernel_rfl) (fun _ _ _ h => h) (Or.inl ⟨by kernel_rfl, ?_⟩) ?_
  rotate_left
  · (intro wS hwS; obtain ⟨hcS, hfS, hhS⟩ := bcell hwS; go_simp; try (first | (with_reducible rfl) | rw [if_pos (by omega)] | rw [if_neg (by omega)]))
  try simp only [Act.put, List.getElem_toArray, List.getElem_cons_succ, List.getElem_cons_zero, List.setIfInBounds_toArray, List.set_cons_zero, List.set_cons_succ]
  refine stage_read (i := 3) (v := ?_) rfl (by kernel_rfl) (by kernel_rfl) (by kernel_rfl) (by kernel_rfl) (by kernel_rfl) (by kernel_rfl) (fun _ _ _ h => h) (Or.inl ⟨by kernel_rfl, ?_⟩) ?_
  rotate_left
  · (intro wS hwS; obtain ⟨hcS, hfS, hhS⟩ := bcell hwS; go_simp; try (first | (with_reducible rfl) | rw [if_pos (by omega)] | rw [if_neg (by omega)]))
  try simp only [Act.put, List.getElem_toArray, List.getElem_cons_succ, List.getElem_cons_zero, List.setIfInBounds_toArray, List.set_cons_zero, List.set_cons_succ]
  refine stage_read (i := 4) (v := ?_) rfl (by kernel_rfl) (by kernel_rfl) (by kernel_rfl) (by kernel_rfl) (by kernel_rfl) (by kernel_rfl) (fun _ _ _ h => h) (Or.inl ⟨by kernel_rfl, ?_⟩) ?_
  rotate_left
  · (intro wS hwS; obtain ⟨hcS, hfS, hhS⟩ := bcell hwS; go_simp; try (first | (with_reducible rfl) | rw [if_pos (by omega)] | rw [if_neg (by omega)]))
  try simp only [Act.put, List.getElem_toArray, List.getElem_cons_succ, List.getElem_cons_zero, List.setIfInBounds_toArray, List.set_cons_zero, List.set_cons_succ]
  refine stage_read (i := 5) (v := ?_) rfl (by kernel_rfl) (by kernel_rfl) (by kernel_rfl) (by kernel_rfl) (by kernel_rfl) (by kernel_rfl) (fun _ _ _ h => h) (Or.inl ⟨by kernel_rfl, ?_⟩) ?_
  rotate_left
  · (intro wS hwS; obtain ⟨hcS, hfS, hhS⟩ := bcell hwS; go_simp; try (first | (with_reducible rfl) | rw [if_pos (by omega)] | rw [if_neg (by omega)]))
  try simp only [Act.put, List.getElem_toArray, List.getElem_cons_succ, List.getElem_cons_zero, List.setIfInBounds_toArray, List.set_cons_zero, List.set_cons_succ]
  refine stage_read (i := 6) (v := ?_) rfl (by kernel_rfl) (by kernel_rfl) (by kernel_rfl) (by kernel_rfl) (by kernel_rfl) (by kernel_rfl) (fun _ _ _ h => h) (Or.inl ⟨by kernel_rfl, ?_⟩) ?_
  rotate_left
  · (intro wS hwS; obtain ⟨hcS, hfS, hhS⟩ := bcell hwS; go_simp; try (first | (with_reducible rfl) | rw [if_pos (by omega)] | rw [if_neg (by omega)]))
  try simp only [Act.put, List.getElem_toArray, List.getElem_cons_succ, List.getElem_cons_zero, List.setIfInBounds_toArray, List.set_cons_zero, List.set_cons_succ]
  refine stage_read (i := 7) (v := ?_) rfl (by kernel_rfl) (by kernel_rfl) (by kernel_rfl) (by kernel_rfl) (by kernel_rfl) (by kernel_rfl) (fun _ _ _ h => h) (Or.inl ⟨by kernel_rfl, ?_⟩) ?_
  rotate_left
  · (intro wS hwS; obtain ⟨hcS, hfS, hhS⟩ := bcell hwS; go_simp; try (first | (with_reducible rfl) | rw [if_pos (by omega)] | rw [if_neg (by omega)]))
  try simp only [Act.put, List.getElem_toArray, List.getElem_cons_succ, List.getElem_cons_zero, List.setIfInBounds_toArray, List.set_cons_zero, List.set_cons_succ]
  refine stage_end (by kernel_rfl) rfl (fun K hK => ?_)
  go_simp
  refine hK.out _ _ ?_
  clear hK K
  try simp only [Act.put, List.getElem_toArray, List.getElem_cons_succ, List.getElem_cons_zero, List.setIfInBounds_toArray, List.set_cons_zero, List.set_cons_succ]
  first | refine wpAnyT_done (by kernel_rfl) ?_ _ | refine wpAny_done (by kernel_rfl) ?_ _
  clear hcp1
  have q2 := HC2.out
  go_wp2_with fail
  go_ret
  refine ⟨some ⟨g, 0, none⟩, c, rfl, ?_, HB6.out⟩
  have hfin := HO6.out
  rw [← rows_take, ← rows_drop] at hfin
  unfold OwnC
  simpa [List.flatMap_append, List.flatMap_cons] using hfin
end Go.Proofs.Ytcepknjcgknidaa
