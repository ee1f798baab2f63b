
/- Chapter 6: one call on both sides answers alike and leaves both alike. -/
import Derived.Test.YtmoijbknjadeeaaDkBo
namespace Go.Proofs.Ytmoijbknjadeeaa
set_option linter.unusedVariables false
set_option linter.unusedSimpArgs false
open Go.RowKit
theorem conv_bytes6 (s : ByteArray) (w : World) (hs : s.size ≤ 1099511627776) : ∃ cap w', (convert 9 27 (.string s)).run Try.prog w = .ok (.slice (some ⟨w.heap.size, 0, none⟩) s.size cap) w' ∧ RdB w' w'.heap.size (some ⟨w.heap.size, 0, none⟩) s.size cap s.data.toList ∧ Below w.heap.size w w' := by
  refine ⟨_, _, run_bytes_of_string w _ _ 5 s Try.underlying9 Try.underlying27 Try.underlying5, ?_, (Below.drew (Below.refl _ _)).alloc (Nat.le_refl _) _⟩
  have hsz : s.data.toList.length = s.size := by rw [Array.length_toList]; rfl
  refine ⟨by rw [bys_length, hsz, Nat.mul_one], grownCap_ge _ _ _ _, grownCap_le_maxLen _ _ _ _ (by simp only [maxLen]; omega), fun _ => ⟨_, 0, rfl, by simp, fun j u hu => ?_⟩⟩
  obtain ⟨b, hb, rfl⟩ := bys_get hu
  rw [show (⟨w.heap.size, 0 + j, none⟩ : Addr) = ⟨w.drew.heap.size, j, none⟩ from by simp]
  rw [World.cell?_alloc_mark]
  have hj : j < s.data.size := by have := (List.getElem?_eq_some_iff.1 hb).1; simpa using this
  rw [bytesRow_at s _ j hj]
  rw [Array.getElem?_toList, Array.getElem?_eq_getElem hj] at hb
  injection hb with hb
  rw [hb]
theorem mod_one {w w' : World} {g : Nat} (h : w.grownBy w' (some g)) : Mod (fun i _ => i = g) w w' := (grown_mod h).mono fun i o _ _ e => (Option.some.inj e).symm
theorem flatMap_core : ∀ l : List Fi, (l.map Fi.core).flatMap Fi.row = l.flatMap Fi.row
  | [] => rfl
  | x :: l => by rw [List.map_cons, List.flatMap_cons, List.flatMap_cons, flatMap_core l]; rfl
theorem crash_bd {M : Nat} {ks : List Nat} {l l' : List Fi} (hc : l'.map Fi.core = crashF ks 0 l) (hM : Bd M l) : Bd M l' := by
  intro x hx
  obtain ⟨j, hj, rfl⟩ := List.getElem_of_mem hx
  have hl : l'.length = l.length := by have := congrArg List.length hc; rw [List.length_map, crashF_length] at this; exact this
  have hj2 : j < l.length := by omega
  have e := crashF_at ks 0 j l hj2
  rw [← hc, List.getElem?_map, List.getElem?_eq_getElem hj] at e
  have e2 := Option.some.inj e
  have e3 : (l'[j]).b = (l[j]).b.take (crashN ks (0 + j) l[j]) := (congrArg Fi.b e2 : (l'[j]).core.b = (crashX ks (0 + j) l[j]).b)
  have e4 : (l'[j]).k = (l[j]).k := (congrArg Fi.k e2 : (l'[j]).core.k = (crashX ks (0 + j) l[j]).k)
  rw [e3, e4, List.length_take]
  have := hM l[j] (List.getElem_mem hj2)
  exact ⟨by omega, this.2⟩
theorem Both.other {w w' : World} {gd bd gr N : Nat} {l : List Fi} {lost armed : Bool} {left : Int} {M g5 : Nat} {cs : List Value} (h : Both w gd bd gr N l lost armed left M) (h5 : At w g5 40 cs) (hm : Mod (fun i _ => i = g5) w w') : Both w' gd bd gr N l lost armed left M := by
  have hgn := h.dk.freeAt h5 (by decide)
  have hgr := h.rf.freeAt h5 (by decide)
  obtain ⟨A, c, h1, h2⟩ := h.rf.ex
  exact ⟨⟨hm.at h.dk.at_ (fun e => hgn (.inl e.symm)), h.dk.mp.mod hm (fun _ _ e => hgn (.inr e.symm)), fun x hx => ⟨own_mod (show World.ownsRow _ _ _ _ _ _ _ from (h.dk.own x hx).1) hm (fun i o ho _ hit e => isT_at h5 ho hit (by decide) e), (h.dk.own x hx).2⟩, h.dk.ne, h.dk.left0⟩,
    ⟨A, c, hm.at h1 (fun e => hgr e.symm), own_mod h2 hm (fun i o ho _ hit e => isT_at h5 ho hit (by decide) e)⟩, h.sm⟩
section
variable {gd bd gr N : Nat} {l : List Fi} {lost armed : Bool} {left : Int} {M : Nat}
set_option maxRecDepth 100000 in
set_option maxHeartbeats 8000000 in
theorem step_any (op : Opr) (hfit : op.fits) (ks : List Nat) (w : World) (hbo : Both w gd bd gr N l lost armed left M)
    (hk : ∀ v, Mod (fun i _ => i = gd ∨ i = bd ∨ i = gr) w v → RdK v v.heap.size op.A op.kn op.kc ks) (hks : ∀ x ∈ ks, x < 65536) (hN : N ≤ 50000) (hl : l.length ≤ 50000) (hM : M ≤ 1000000) :
    Calls Try.prog 22 #[.pointer (some ⟨gd, 0, none⟩), .pointer (some ⟨gr, 0, none⟩), op.v] w fun x w' => StP w w' gd bd gr N l M x := by
  obtain ⟨ki, nm, to, b, n, KA, kn, kc⟩ := op
  obtain ⟨hf0, hf1, hf2, hf4⟩ := hfit
  unfold Opr.v
  simp only at hf0 hf1 hf2 hf4 hk ⊢
  have HK := Lib.hid hk
  have HKS := Lib.hid hks
  clear hk hks
  go_enter Try.func22, Try.ntmps22
  go_upto_region 1 with fail
  obtain ⟨h5, hb1⟩ := one_at w 40 [.int .i64 ki, .string nm, .string to, .string b, .int .i64 n, .slice KA kn kc]
  replace hbo := hbo.step hb1
  have hm : Mod (fun i _ => i = gd ∨ i = bd ∨ i = gr) w _ := (Mod.refl _ w).below hb1
  clear hb1
  generalize World.alloc _ _ = w1 at *
  obtain ⟨g5, hg5⟩ : ∃ g5, w.heap.size = g5 := ⟨_, rfl⟩
  rw [hg5] at h5 ⊢
  have hgn := hbo.dk.freeAt h5 (by decide)
  have hgr := hbo.rf.freeAt h5 (by decide)
  obtain ⟨⟨x0, x1, x2, x3, x4, x5⟩, xf⟩ := at6 h5
  by_cases h50 : 50 < b.size
  · have hd50 : decide (50 < (b.size : Int)) = true := decide_eq_true (by omega)
    have hbs : (b.extract 0 50).size ≤ 50 := by rw [ByteArray.size_extract]; omega
    go_upto_region 3 with fail
    have hms : Mod (fun i _ => i = g5) w1 (w1.setCell ⟨g5, 3, none⟩ (.string (b.extract 0 50))) := mod_one (grown_set w1 g5 3 _)
    replace hbo := hbo.other h5 hms
    replace hm := hm.step hms (fun i o hi _ e => absurd e (by omega))
    replace h5 := h5.set 3 (.string (b.extract 0 50))
    simp only [List.set] at h5
    clear hms x0 x1 x2 x3 x4 x5 xf
    generalize b.extract 0 50 = bb at *
    generalize World.setCell _ _ _ = w5 at *
    obtain ⟨⟨x0, x1, x2, x3, x4, x5⟩, xf⟩ := at6 h5
    have hfs : nm.size ≤ maxLen := hf1
    by_cases e0 : ki = 0
    · subst e0
      have HP := fun (A : Option Addr) (n c : Nat) (v : World) (h : IsDk v gd bd N l lost armed left) (hr : ∀ u, v.grownBy u (some gd) → RdB u u.heap.size A n c bb.data.toList) (hn : n ≤ 100000000) => papp nm hf1 A n c bb.data.toList v h hr hn (by omega) (fun x hx => Nat.le_trans (hbo.sm x hx).1 (by omega))
      have HR := fun (v : World) (h : IsRf v gr l lost (rl armed left)) => rapp (armed := armed) nm bb.data.toList v h hbo.dk.left0 (by omega) (by have := get_bd hbo.sm nm; have e : bb.data.toList.length = bb.size := Array.length_toList; omega)
      rw [show (⟨bb.data.toList.toArray⟩ : ByteArray) = bb by rw [Array.toArray_toList]] at HR
      have hob := ob_ap (lost := lost) (armed := armed) (left := left) hbo.dk.mp.asc hbo.sm nm hf1 (y := bb.data.toList) (by have e : bb.data.toList.length = bb.size := Array.length_toList; omega)
      generalize apO nm bb.data.toList l lost armed left = o at *
      go_upto_region 6 with fail
      have k0 : ∀ w' : World, At w' g5 40 [.int .i64 0, .string nm, .string to, .string bb, .int .i64 n, .slice KA kn kc] → _ := fun w' h => (at6 h).1
      refine region_begin (fun w' : World => At w' g5 40 [.int .i64 0, .string nm, .string to, .string bb, .int .i64 n, .slice KA kn kc]) (by kernel_rfl) (h5.drew) (fun hHeld => ?_)
      replace hbo := hbo.drew
      replace hm := hm.drew
      clear h5 x0 x1 x2 x3 x4 x5 xf
      generalize World.drew _ = w6 at *
      obtain ⟨cap, w7, hcv, hcr, hcb⟩ := conv_bytes6 bb w6 (by omega)
      have hne : gd ≠ w6.heap.size := by have := hbo.dk.lt; omega
      refine wpAnyH_take (i := 0) (v := ?_) rfl (by kernel_rfl) (by kernel_rfl) (by kernel_rfl) (fun _ _ _ h => h) (Or.inl ⟨by kernel_rfl, ?_⟩) (by assumption) ?_
      rotate_left
      · (intro wS hwS; (try dsimp only at hwS); go_simp; try (first | (with_reducible rfl) | rw [if_pos (by omega)] | rw [if_neg (by omega)]))
      try simp only [Act.put, List.getElem_toArray, List.getElem_cons_succ, List.getElem_cons_zero, List.setIfInBounds_toArray, List.set_cons_zero, List.set_cons_succ]
      refine wpAnyH_take (i := 1) (v := ?_) rfl (by kernel_rfl) (by kernel_rfl) (by kernel_rfl) (fun _ _ _ h => h) (Or.inl ⟨by kernel_rfl, ?_⟩) (by assumption) ?_
      rotate_left
      · (intro wS hwS; (try dsimp only at hwS); go_simp; try (first | (with_reducible rfl) | rw [if_pos (by omega)] | rw [if_neg (by omega)]))
      try simp only [Act.put, List.getElem_toArray, List.getElem_cons_succ, List.getElem_cons_zero, List.setIfInBounds_toArray, List.set_cons_zero, List.set_cons_succ]
      refine wpAnyH_take (i := 2) (v := ?_) rfl (by kernel_rfl) (by kernel_rfl) (by kernel_rfl) (fun _ _ _ h => h) (Or.inl ⟨by kernel_rfl, ?_⟩) (by assumption) ?_
      rotate_left
      · (intro wS hwS; (try dsimp only at hwS); go_simp; try (first | (with_reducible rfl) | rw [if_pos (by omega)] | rw [if_neg (by omega)]))
      try simp only [Act.put, List.getElem_toArray, List.getElem_cons_succ, List.getElem_cons_zero, List.setIfInBounds_toArray, List.set_cons_zero, List.set_cons_succ]
      refine wpAnyH_take (i := 3) (v := ?_) rfl (by kernel_rfl) (by kernel_rfl) (by kernel_rfl) (fun _ _ _ h => h) (Or.inl ⟨by kernel_rfl, ?_⟩) (by assumption) ?_
      rotate_left
      · (intro wS hwS; (try dsimp only at hwS); go_simp; try (first | (with_reducible rfl) | rw [if_pos (by omega)] | rw [if_neg (by omega)]))
      try simp only [Act.put, List.getElem_toArray, List.getElem_cons_succ, List.getElem_cons_zero, List.setIfInBounds_toArray, List.set_cons_zero, List.set_cons_succ]
      refine wpAnyH_take (i := 4) (v := ?_) rfl (by kernel_rfl) (by kernel_rfl) (by kernel_rfl) (fun _ _ _ h => h) (Or.inl ⟨by kernel_rfl, ?_⟩) (by assumption) ?_
      rotate_left
      · (intro wS hwS; (try dsimp only at hwS); go_simp; try (first | (with_reducible rfl) | rw [if_pos (by omega)] | rw [if_neg (by omega)]))
      try simp only [Act.put, List.getElem_toArray, List.getElem_cons_succ, List.getElem_cons_zero, List.setIfInBounds_toArray, List.set_cons_zero, List.set_cons_succ]
      refine wpAnyH_take (i := 7) (v := ?_) rfl (by kernel_rfl) (by kernel_rfl) (by kernel_rfl) (fun _ _ _ h => h) (Or.inl ⟨by kernel_rfl, ?_⟩) (by assumption) ?_
      rotate_left
      · (intro wS hwS; (try dsimp only at hwS); go_simp; try (first | (with_reducible rfl) | rw [if_pos (by omega)] | rw [if_neg (by omega)]))
      try simp only [Act.put, List.getElem_toArray, List.getElem_cons_succ, List.getElem_cons_zero, List.setIfInBounds_toArray, List.set_cons_zero, List.set_cons_succ]
      refine wpAnyH_take (i := 8) (v := ?_) rfl (by kernel_rfl) (by kernel_rfl) (by kernel_rfl) (fun _ _ _ h => h) (Or.inl ⟨by kernel_rfl, ?_⟩) (by assumption) ?_
      rotate_left
      · (intro wS hwS; (try dsimp only at hwS); go_simp; try (first | (with_reducible rfl) | rw [if_pos (by omega)] | rw [if_neg (by omega)]))
      try simp only [Act.put, List.getElem_toArray, List.getElem_cons_succ, List.getElem_cons_zero, List.setIfInBounds_toArray, List.set_cons_zero, List.set_cons_succ]
      refine wpAnyH_take (i := 9) (v := ?_) rfl (by kernel_rfl) (by kernel_rfl) (by kernel_rfl) (fun _ _ _ h => h) (Or.inl ⟨by kernel_rfl, ?_⟩) (by assumption) ?_
      rotate_left
      · (intro wS hwS; (try dsimp only at hwS); go_simp; try (first | (with_reducible rfl) | rw [if_pos (by omega)] | rw [if_neg (by omega)]))
      try simp only [Act.put, List.getElem_toArray, List.getElem_cons_succ, List.getElem_cons_zero, List.setIfInBounds_toArray, List.set_cons_zero, List.set_cons_succ]
      refine wpAnyH_take (i := 10) (v := ?_) rfl (by kernel_rfl) (by kernel_rfl) (by kernel_rfl) (fun _ _ _ h => h) (Or.inl ⟨by kernel_rfl, ?_⟩) (by assumption) ?_
      rotate_left
      · (intro wS hwS; (try dsimp only at hwS); go_simp; try (first | (with_reducible rfl) | rw [if_pos (by omega)] | rw [if_neg (by omega)]))
      try simp only [Act.put, List.getElem_toArray, List.getElem_cons_succ, List.getElem_cons_zero, List.setIfInBounds_toArray, List.set_cons_zero, List.set_cons_succ]
      refine wpAnyH_take (i := 11) (v := ?_) rfl (by kernel_rfl) (by kernel_rfl) (by kernel_rfl) (fun _ _ _ h => h) (Or.inl ⟨by kernel_rfl, ?_⟩) (by assumption) ?_
      rotate_left
      · (intro wS hwS; (try dsimp only at hwS); go_simp; try (first | (with_reducible rfl) | rw [if_pos (by omega)] | rw [if_neg (by omega)]))
      try simp only [Act.put, List.getElem_toArray, List.getElem_cons_succ, List.getElem_cons_zero, List.setIfInBounds_toArray, List.set_cons_zero, List.set_cons_succ]
      refine region_one 5 (by kernel_rfl) rfl (fun K hK => ?_)
      go_simp
      have h20 : At _ g5 40 [.int .i64 0, .string nm, .string to, .string bb, .int .i64 n, .slice KA kn kc] := hHeld.step hcb
      replace hbo := hbo.step hcb
      replace hm := hm.below hcb
      clear hHeld
      refine hK.out _ _ (fun w' : World => At w' g5 40 [.int .i64 0, .string nm, .string to, .string bb, .int .i64 n, .slice KA kn kc]) (h20) (fun _ h => h) (fun hHeld => ?_)
      clear hK K
      try simp only [Act.put, List.getElem_toArray, List.getElem_cons_succ, List.getElem_cons_zero, List.setIfInBounds_toArray, List.set_cons_zero, List.set_cons_succ]
      clear h20 hcv
      refine region_one 6 (by kernel_rfl) rfl (fun K hK => ?_)
      go_simp
      refine (HP _ _ _ _ hbo.dk (fun u hG => hcr.keepM (grown_mod hG) (fun o e => hne (Option.some.inj e)) (Nat.le_refl _)) (by omega)).mono ?_
      rintro z w8 ⟨rfl, hm7, l7, hl7, hd7⟩
      have hrf7 := hbo.rf.keep hbo.dk hm7
      have h20 : At _ g5 40 [.int .i64 0, .string nm, .string to, .string bb, .int .i64 n, .slice KA kn kc] := hm7.at hHeld (hbo.dk.freeAt hHeld (by decide))
      clear hHeld hcr hcb
      refine hK.out _ _ (fun w' : World => At w' g5 40 [.int .i64 0, .string nm, .string to, .string bb, .int .i64 n, .slice KA kn kc]) (h20) (fun _ h => h) (fun hHeld => ?_)
      clear hK K
      try simp only [Act.put, List.getElem_toArray, List.getElem_cons_succ, List.getElem_cons_zero, List.setIfInBounds_toArray, List.set_cons_zero, List.set_cons_succ]
      clear h20
      refine region_one 12 (by kernel_rfl) rfl (fun K hK => ?_)
      go_simp
      refine (HR _ hrf7).mono ?_
      rintro z w9 ⟨rfl, hm8, hr8⟩
      have h20 : At _ g5 40 [.int .i64 0, .string nm, .string to, .string bb, .int .i64 n, .slice KA kn kc] := hm8.at hHeld (hrf7.freeAt hHeld (by decide))
      clear hHeld
      refine hK.out _ _ (fun w' : World => At w' g5 40 [.int .i64 0, .string nm, .string to, .string bb, .int .i64 n, .slice KA kn kc]) (h20) (fun _ h => h) (fun hHeld => ?_)
      clear hK K
      try simp only [Act.put, List.getElem_toArray, List.getElem_cons_succ, List.getElem_cons_zero, List.setIfInBounds_toArray, List.set_cons_zero, List.set_cons_succ]
      clear h20
      refine wpAnyH_take (i := 13) (v := ?_) rfl (by kernel_rfl) (by kernel_rfl) (by kernel_rfl) (fun _ _ _ h => h) (Or.inl ⟨by kernel_rfl, ?_⟩) (by assumption) ?_
      rotate_left
      · (intro wS hwS; (try dsimp only at hwS); go_simp; try (first | (with_reducible rfl) | rw [if_pos (by omega)] | rw [if_neg (by omega)]))
      try simp only [Act.put, List.getElem_toArray, List.getElem_cons_succ, List.getElem_cons_zero, List.setIfInBounds_toArray, List.set_cons_zero, List.set_cons_succ]
      refine wpAnyH_take (i := 14) (v := ?_) rfl (by kernel_rfl) (by kernel_rfl) (by kernel_rfl) (fun _ _ _ h => h) (Or.inl ⟨by kernel_rfl, ?_⟩) (by assumption) ?_
      rotate_left
      · (intro wS hwS; (try dsimp only at hwS); go_simp; try (first | (with_reducible rfl) | rw [if_pos (by omega)] | rw [if_neg (by omega)]))
      try simp only [Act.put, List.getElem_toArray, List.getElem_cons_succ, List.getElem_cons_zero, List.setIfInBounds_toArray, List.set_cons_zero, List.set_cons_succ]
      refine wpAnyH_done (by kernel_rfl) ?_ _
      have HE := both_two hob hrf7 hm7 hl7 hd7 hm8 hr8
      clear hrf7 hm7 hl7 hd7 hm8 hr8 hHeld k0 hbo
      obtain ⟨-, hm9, hE⟩ := HE
      have HE2 := Lib.hid hE
      have HM := Lib.hid (hm.trans hm9)
      clear hE hm hm9
      go_wp2_with fail
      go_ret
      exact ⟨rfl, HM.out, HE2.out⟩
    replace e0 : (ki == 0) = false := by simpa using e0
    by_cases e1 : ki = 1
    · subst e1
      have HP := fun (A : Option Addr) (n c : Nat) (v : World) (h : IsDk v gd bd N l lost armed left) (hr : ∀ u, v.grownBy u (some gd) → RdB u u.heap.size A n c bb.data.toList) (hn : n ≤ 100000000) => papp nm hf1 A n c bb.data.toList v h hr hn (by omega) (fun x hx => Nat.le_trans (hbo.sm x hx).1 (by omega))
      have HR := fun (v : World) (h : IsRf v gr l lost (rl armed left)) => rapp (armed := armed) nm bb.data.toList v h hbo.dk.left0 (by omega) (by have := get_bd hbo.sm nm; have e : bb.data.toList.length = bb.size := Array.length_toList; omega)
      rw [show (⟨bb.data.toList.toArray⟩ : ByteArray) = bb by rw [Array.toArray_toList]] at HR
      have hob := ob_ap (lost := lost) (armed := armed) (left := left) hbo.dk.mp.asc hbo.sm nm hf1 (y := bb.data.toList) (by have e : bb.data.toList.length = bb.size := Array.length_toList; omega)
      generalize apO nm bb.data.toList l lost armed left = o at *
      go_upto_region 6 with fail
      have k0 : ∀ w' : World, At w' g5 40 [.int .i64 1, .string nm, .string to, .string bb, .int .i64 n, .slice KA kn kc] → _ := fun w' h => (at6 h).1
      refine region_begin (fun w' : World => At w' g5 40 [.int .i64 1, .string nm, .string to, .string bb, .int .i64 n, .slice KA kn kc]) (by kernel_rfl) (h5.drew) (fun hHeld => ?_)
      replace hbo := hbo.drew
      replace hm := hm.drew
      clear h5 x0 x1 x2 x3 x4 x5 xf
      generalize World.drew _ = w6 at *
      obtain ⟨cap, w7, hcv, hcr, hcb⟩ := conv_bytes6 bb w6 (by omega)
      have hne : gd ≠ w6.heap.size := by have := hbo.dk.lt; omega
      refine wpAnyH_take (i := 0) (v := ?_) rfl (by kernel_rfl) (by kernel_rfl) (by kernel_rfl) (fun _ _ _ h => h) (Or.inl ⟨by kernel_rfl, ?_⟩) (by assumption) ?_
      rotate_left
      · (intro wS hwS; (try dsimp only at hwS); go_simp; try (first | (with_reducible rfl) | rw [if_pos (by omega)] | rw [if_neg (by omega)]))
      try simp only [Act.put, List.getElem_toArray, List.getElem_cons_succ, List.getElem_cons_zero, List.setIfInBounds_toArray, List.set_cons_zero, List.set_cons_succ]
      refine wpAnyH_take (i := 1) (v := ?_) rfl (by kernel_rfl) (by kernel_rfl) (by kernel_rfl) (fun _ _ _ h => h) (Or.inl ⟨by kernel_rfl, ?_⟩) (by assumption) ?_
      rotate_left
      · (intro wS hwS; (try dsimp only at hwS); go_simp; try (first | (with_reducible rfl) | rw [if_pos (by omega)] | rw [if_neg (by omega)]))
      try simp only [Act.put, List.getElem_toArray, List.getElem_cons_succ, List.getElem_cons_zero, List.setIfInBounds_toArray, List.set_cons_zero, List.set_cons_succ]
      refine wpAnyH_take (i := 2) (v := ?_) rfl (by kernel_rfl) (by kernel_rfl) (by kernel_rfl) (fun _ _ _ h => h) (Or.inl ⟨by kernel_rfl, ?_⟩) (by assumption) ?_
      rotate_left
      · (intro wS hwS; (try dsimp only at hwS); go_simp; try (first | (with_reducible rfl) | rw [if_pos (by omega)] | rw [if_neg (by omega)]))
      try simp only [Act.put, List.getElem_toArray, List.getElem_cons_succ, List.getElem_cons_zero, List.setIfInBounds_toArray, List.set_cons_zero, List.set_cons_succ]
      refine wpAnyH_take (i := 3) (v := ?_) rfl (by kernel_rfl) (by kernel_rfl) (by kernel_rfl) (fun _ _ _ h => h) (Or.inl ⟨by kernel_rfl, ?_⟩) (by assumption) ?_
      rotate_left
      · (intro wS hwS; (try dsimp only at hwS); go_simp; try (first | (with_reducible rfl) | rw [if_pos (by omega)] | rw [if_neg (by omega)]))
      try simp only [Act.put, List.getElem_toArray, List.getElem_cons_succ, List.getElem_cons_zero, List.setIfInBounds_toArray, List.set_cons_zero, List.set_cons_succ]
      refine wpAnyH_take (i := 4) (v := ?_) rfl (by kernel_rfl) (by kernel_rfl) (by kernel_rfl) (fun _ _ _ h => h) (Or.inl ⟨by kernel_rfl, ?_⟩) (by assumption) ?_
      rotate_left
      · (intro wS hwS; (try dsimp only at hwS); go_simp; try (first | (with_reducible rfl) | rw [if_pos (by omega)] | rw [if_neg (by omega)]))
      try simp only [Act.put, List.getElem_toArray, List.getElem_cons_succ, List.getElem_cons_zero, List.setIfInBounds_toArray, List.set_cons_zero, List.set_cons_succ]
      refine wpAnyH_take (i := 7) (v := ?_) rfl (by kernel_rfl) (by kernel_rfl) (by kernel_rfl) (fun _ _ _ h => h) (Or.inl ⟨by kernel_rfl, ?_⟩) (by assumption) ?_
      rotate_left
      · (intro wS hwS; (try dsimp only at hwS); go_simp; try (first | (with_reducible rfl) | rw [if_pos (by omega)] | rw [if_neg (by omega)]))
      try simp only [Act.put, List.getElem_toArray, List.getElem_cons_succ, List.getElem_cons_zero, List.setIfInBounds_toArray, List.set_cons_zero, List.set_cons_succ]
      refine wpAnyH_take (i := 8) (v := ?_) rfl (by kernel_rfl) (by kernel_rfl) (by kernel_rfl) (fun _ _ _ h => h) (Or.inl ⟨by kernel_rfl, ?_⟩) (by assumption) ?_
      rotate_left
      · (intro wS hwS; (try dsimp only at hwS); go_simp; try (first | (with_reducible rfl) | rw [if_pos (by omega)] | rw [if_neg (by omega)]))
      try simp only [Act.put, List.getElem_toArray, List.getElem_cons_succ, List.getElem_cons_zero, List.setIfInBounds_toArray, List.set_cons_zero, List.set_cons_succ]
      refine wpAnyH_take (i := 9) (v := ?_) rfl (by kernel_rfl) (by kernel_rfl) (by kernel_rfl) (fun _ _ _ h => h) (Or.inl ⟨by kernel_rfl, ?_⟩) (by assumption) ?_
      rotate_left
      · (intro wS hwS; (try dsimp only at hwS); go_simp; try (first | (with_reducible rfl) | rw [if_pos (by omega)] | rw [if_neg (by omega)]))
      try simp only [Act.put, List.getElem_toArray, List.getElem_cons_succ, List.getElem_cons_zero, List.setIfInBounds_toArray, List.set_cons_zero, List.set_cons_succ]
      refine wpAnyH_take (i := 10) (v := ?_) rfl (by kernel_rfl) (by kernel_rfl) (by kernel_rfl) (fun _ _ _ h => h) (Or.inl ⟨by kernel_rfl, ?_⟩) (by assumption) ?_
      rotate_left
      · (intro wS hwS; (try dsimp only at hwS); go_simp; try (first | (with_reducible rfl) | rw [if_pos (by omega)] | rw [if_neg (by omega)]))
      try simp only [Act.put, List.getElem_toArray, List.getElem_cons_succ, List.getElem_cons_zero, List.setIfInBounds_toArray, List.set_cons_zero, List.set_cons_succ]
      refine wpAnyH_take (i := 11) (v := ?_) rfl (by kernel_rfl) (by kernel_rfl) (by kernel_rfl) (fun _ _ _ h => h) (Or.inl ⟨by kernel_rfl, ?_⟩) (by assumption) ?_
      rotate_left
      · (intro wS hwS; (try dsimp only at hwS); go_simp; try (first | (with_reducible rfl) | rw [if_pos (by omega)] | rw [if_neg (by omega)]))
      try simp only [Act.put, List.getElem_toArray, List.getElem_cons_succ, List.getElem_cons_zero, List.setIfInBounds_toArray, List.set_cons_zero, List.set_cons_succ]
      refine region_one 5 (by kernel_rfl) rfl (fun K hK => ?_)
      go_simp
      have h20 : At _ g5 40 [.int .i64 1, .string nm, .string to, .string bb, .int .i64 n, .slice KA kn kc] := hHeld.step hcb
      replace hbo := hbo.step hcb
      replace hm := hm.below hcb
      clear hHeld
      refine hK.out _ _ (fun w' : World => At w' g5 40 [.int .i64 1, .string nm, .string to, .string bb, .int .i64 n, .slice KA kn kc]) (h20) (fun _ h => h) (fun hHeld => ?_)
      clear hK K
      try simp only [Act.put, List.getElem_toArray, List.getElem_cons_succ, List.getElem_cons_zero, List.setIfInBounds_toArray, List.set_cons_zero, List.set_cons_succ]
      clear h20 hcv
      refine region_one 6 (by kernel_rfl) rfl (fun K hK => ?_)
      go_simp
      refine (HP _ _ _ _ hbo.dk (fun u hG => hcr.keepM (grown_mod hG) (fun o e => hne (Option.some.inj e)) (Nat.le_refl _)) (by omega)).mono ?_
      rintro z w8 ⟨rfl, hm7, l7, hl7, hd7⟩
      have hrf7 := hbo.rf.keep hbo.dk hm7
      have h20 : At _ g5 40 [.int .i64 1, .string nm, .string to, .string bb, .int .i64 n, .slice KA kn kc] := hm7.at hHeld (hbo.dk.freeAt hHeld (by decide))
      clear hHeld hcr hcb
      refine hK.out _ _ (fun w' : World => At w' g5 40 [.int .i64 1, .string nm, .string to, .string bb, .int .i64 n, .slice KA kn kc]) (h20) (fun _ h => h) (fun hHeld => ?_)
      clear hK K
      try simp only [Act.put, List.getElem_toArray, List.getElem_cons_succ, List.getElem_cons_zero, List.setIfInBounds_toArray, List.set_cons_zero, List.set_cons_succ]
      clear h20
      refine region_one 12 (by kernel_rfl) rfl (fun K hK => ?_)
      go_simp
      refine (HR _ hrf7).mono ?_
      rintro z w9 ⟨rfl, hm8, hr8⟩
      have h20 : At _ g5 40 [.int .i64 1, .string nm, .string to, .string bb, .int .i64 n, .slice KA kn kc] := hm8.at hHeld (hrf7.freeAt hHeld (by decide))
      clear hHeld
      refine hK.out _ _ (fun w' : World => At w' g5 40 [.int .i64 1, .string nm, .string to, .string bb, .int .i64 n, .slice KA kn kc]) (h20) (fun _ h => h) (fun hHeld => ?_)
      clear hK K
      try simp only [Act.put, List.getElem_toArray, List.getElem_cons_succ, List.getElem_cons_zero, List.setIfInBounds_toArray, List.set_cons_zero, List.set_cons_succ]
      clear h20
      refine wpAnyH_take (i := 13) (v := ?_) rfl (by kernel_rfl) (by kernel_rfl) (by kernel_rfl) (fun _ _ _ h => h) (Or.inl ⟨by kernel_rfl, ?_⟩) (by assumption) ?_
      rotate_left
      · (intro wS hwS; (try dsimp only at hwS); go_simp; try (first | (with_reducible rfl) | rw [if_pos (by omega)] | rw [if_neg (by omega)]))
      try simp only [Act.put, List.getElem_toArray, List.getElem_cons_succ, List.getElem_cons_zero, List.setIfInBounds_toArray, List.set_cons_zero, List.set_cons_succ]
      refine wpAnyH_take (i := 14) (v := ?_) rfl (by kernel_rfl) (by kernel_rfl) (by kernel_rfl) (fun _ _ _ h => h) (Or.inl ⟨by kernel_rfl, ?_⟩) (by assumption) ?_
      rotate_left
      · (intro wS hwS; (try dsimp only at hwS); go_simp; try (first | (with_reducible rfl) | rw [if_pos (by omega)] | rw [if_neg (by omega)]))
      try simp only [Act.put, List.getElem_toArray, List.getElem_cons_succ, List.getElem_cons_zero, List.setIfInBounds_toArray, List.set_cons_zero, List.set_cons_succ]
      refine wpAnyH_done (by kernel_rfl) ?_ _
      have HE := both_two hob hrf7 hm7 hl7 hd7 hm8 hr8
      clear hrf7 hm7 hl7 hd7 hm8 hr8 hHeld k0 hbo
      obtain ⟨-, hm9, hE⟩ := HE
      have HE2 := Lib.hid hE
      have HM := Lib.hid (hm.trans hm9)
      clear hE hm hm9
      go_wp2_with fail
      go_ret
      exact ⟨rfl, HM.out, HE2.out⟩
    replace e1 : (ki == 1) = false := by simpa using e1
    by_cases e2 : ki = 2
    · subst e2
      have HP := fun (v : World) (h : IsDk v gd bd N l lost armed left) => psync nm hf1 v h (by omega)
      have HR := fun (v : World) (h : IsRf v gr l lost (rl armed left)) => rsync (armed := armed) nm v h hbo.dk.left0 (by omega)
      have hob := ob_sy (lost := lost) (armed := armed) (left := left) hbo.dk.mp.asc hbo.sm nm hf1
      generalize syO nm l lost armed left = o at *
      go_upto_region 8 with fail
      have k0 : ∀ w' : World, At w' g5 40 [.int .i64 2, .string nm, .string to, .string bb, .int .i64 n, .slice KA kn kc] → _ := fun w' h => (at6 h).1
      refine region_begin (fun w' : World => At w' g5 40 [.int .i64 2, .string nm, .string to, .string bb, .int .i64 n, .slice KA kn kc]) (by kernel_rfl) (h5.drew) (fun hHeld => ?_)
      replace hbo := hbo.drew
      replace hm := hm.drew
      clear h5 x0 x1 x2 x3 x4 x5 xf
      generalize World.drew _ = w6 at *
      skip
      refine wpAnyH_take (i := 0) (v := ?_) rfl (by kernel_rfl) (by kernel_rfl) (by kernel_rfl) (fun _ _ _ h => h) (Or.inl ⟨by kernel_rfl, ?_⟩) (by assumption) ?_
      rotate_left
      · (intro wS hwS; (try dsimp only at hwS); go_simp; try (first | (with_reducible rfl) | rw [if_pos (by omega)] | rw [if_neg (by omega)]))
      try simp only [Act.put, List.getElem_toArray, List.getElem_cons_succ, List.getElem_cons_zero, List.setIfInBounds_toArray, List.set_cons_zero, List.set_cons_succ]
      refine wpAnyH_take (i := 1) (v := ?_) rfl (by kernel_rfl) (by kernel_rfl) (by kernel_rfl) (fun _ _ _ h => h) (Or.inl ⟨by kernel_rfl, ?_⟩) (by assumption) ?_
      rotate_left
      · (intro wS hwS; (try dsimp only at hwS); go_simp; try (first | (with_reducible rfl) | rw [if_pos (by omega)] | rw [if_neg (by omega)]))
      try simp only [Act.put, List.getElem_toArray, List.getElem_cons_succ, List.getElem_cons_zero, List.setIfInBounds_toArray, List.set_cons_zero, List.set_cons_succ]
      refine wpAnyH_take (i := 2) (v := ?_) rfl (by kernel_rfl) (by kernel_rfl) (by kernel_rfl) (fun _ _ _ h => h) (Or.inl ⟨by kernel_rfl, ?_⟩) (by assumption) ?_
      rotate_left
      · (intro wS hwS; (try dsimp only at hwS); go_simp; try (first | (with_reducible rfl) | rw [if_pos (by omega)] | rw [if_neg (by omega)]))
      try simp only [Act.put, List.getElem_toArray, List.getElem_cons_succ, List.getElem_cons_zero, List.setIfInBounds_toArray, List.set_cons_zero, List.set_cons_succ]
      refine wpAnyH_take (i := 4) (v := ?_) rfl (by kernel_rfl) (by kernel_rfl) (by kernel_rfl) (fun _ _ _ h => h) (Or.inl ⟨by kernel_rfl, ?_⟩) (by assumption) ?_
      rotate_left
      · (intro wS hwS; (try dsimp only at hwS); go_simp; try (first | (with_reducible rfl) | rw [if_pos (by omega)] | rw [if_neg (by omega)]))
      try simp only [Act.put, List.getElem_toArray, List.getElem_cons_succ, List.getElem_cons_zero, List.setIfInBounds_toArray, List.set_cons_zero, List.set_cons_succ]
      refine wpAnyH_take (i := 5) (v := ?_) rfl (by kernel_rfl) (by kernel_rfl) (by kernel_rfl) (fun _ _ _ h => h) (Or.inl ⟨by kernel_rfl, ?_⟩) (by assumption) ?_
      rotate_left
      · (intro wS hwS; (try dsimp only at hwS); go_simp; try (first | (with_reducible rfl) | rw [if_pos (by omega)] | rw [if_neg (by omega)]))
      try simp only [Act.put, List.getElem_toArray, List.getElem_cons_succ, List.getElem_cons_zero, List.setIfInBounds_toArray, List.set_cons_zero, List.set_cons_succ]
      refine wpAnyH_take (i := 6) (v := ?_) rfl (by kernel_rfl) (by kernel_rfl) (by kernel_rfl) (fun _ _ _ h => h) (Or.inl ⟨by kernel_rfl, ?_⟩) (by assumption) ?_
      rotate_left
      · (intro wS hwS; (try dsimp only at hwS); go_simp; try (first | (with_reducible rfl) | rw [if_pos (by omega)] | rw [if_neg (by omega)]))
      try simp only [Act.put, List.getElem_toArray, List.getElem_cons_succ, List.getElem_cons_zero, List.setIfInBounds_toArray, List.set_cons_zero, List.set_cons_succ]
      refine region_one 3 (by kernel_rfl) rfl (fun K hK => ?_)
      go_simp
      refine (HP _ hbo.dk ).mono ?_
      rintro z w7 ⟨rfl, hm7, l7, hl7, hd7⟩
      have hrf7 := hbo.rf.keep hbo.dk hm7
      have h20 : At _ g5 40 [.int .i64 2, .string nm, .string to, .string bb, .int .i64 n, .slice KA kn kc] := hm7.at hHeld (hbo.dk.freeAt hHeld (by decide))
      clear hHeld
      refine hK.out _ _ (fun w' : World => At w' g5 40 [.int .i64 2, .string nm, .string to, .string bb, .int .i64 n, .slice KA kn kc]) (h20) (fun _ h => h) (fun hHeld => ?_)
      clear hK K
      try simp only [Act.put, List.getElem_toArray, List.getElem_cons_succ, List.getElem_cons_zero, List.setIfInBounds_toArray, List.set_cons_zero, List.set_cons_succ]
      clear h20
      refine region_one 7 (by kernel_rfl) rfl (fun K hK => ?_)
      go_simp
      refine (HR _ hrf7).mono ?_
      rintro z w8 ⟨rfl, hm8, hr8⟩
      have h20 : At _ g5 40 [.int .i64 2, .string nm, .string to, .string bb, .int .i64 n, .slice KA kn kc] := hm8.at hHeld (hrf7.freeAt hHeld (by decide))
      clear hHeld
      refine hK.out _ _ (fun w' : World => At w' g5 40 [.int .i64 2, .string nm, .string to, .string bb, .int .i64 n, .slice KA kn kc]) (h20) (fun _ h => h) (fun hHeld => ?_)
      clear hK K
      try simp only [Act.put, List.getElem_toArray, List.getElem_cons_succ, List.getElem_cons_zero, List.setIfInBounds_toArray, List.set_cons_zero, List.set_cons_succ]
      clear h20
      refine wpAnyH_take (i := 8) (v := ?_) rfl (by kernel_rfl) (by kernel_rfl) (by kernel_rfl) (fun _ _ _ h => h) (Or.inl ⟨by kernel_rfl, ?_⟩) (by assumption) ?_
      rotate_left
      · (intro wS hwS; (try dsimp only at hwS); go_simp; try (first | (with_reducible rfl) | rw [if_pos (by omega)] | rw [if_neg (by omega)]))
      try simp only [Act.put, List.getElem_toArray, List.getElem_cons_succ, List.getElem_cons_zero, List.setIfInBounds_toArray, List.set_cons_zero, List.set_cons_succ]
      refine wpAnyH_take (i := 9) (v := ?_) rfl (by kernel_rfl) (by kernel_rfl) (by kernel_rfl) (fun _ _ _ h => h) (Or.inl ⟨by kernel_rfl, ?_⟩) (by assumption) ?_
      rotate_left
      · (intro wS hwS; (try dsimp only at hwS); go_simp; try (first | (with_reducible rfl) | rw [if_pos (by omega)] | rw [if_neg (by omega)]))
      try simp only [Act.put, List.getElem_toArray, List.getElem_cons_succ, List.getElem_cons_zero, List.setIfInBounds_toArray, List.set_cons_zero, List.set_cons_succ]
      refine wpAnyH_done (by kernel_rfl) ?_ _
      have HE := both_two hob hrf7 hm7 hl7 hd7 hm8 hr8
      clear hrf7 hm7 hl7 hd7 hm8 hr8 hHeld k0 hbo
      obtain ⟨-, hm9, hE⟩ := HE
      have HE2 := Lib.hid hE
      have HM := Lib.hid (hm.trans hm9)
      clear hE hm hm9
      go_wp2_with fail
      go_ret
      exact ⟨rfl, HM.out, HE2.out⟩
    replace e2 : (ki == 2) = false := by simpa using e2
    by_cases e3 : ki = 3
    · subst e3
      have HP := fun (v : World) (h : IsDk v gd bd N l lost armed left) => prename nm to hf1 hf2 v h (by omega)
      have HR := fun (v : World) (h : IsRf v gr l lost (rl armed left)) => rrename (armed := armed) nm to v h hbo.dk.left0 (by omega)
      have hob := ob_re (lost := lost) (armed := armed) (left := left) hbo.dk.mp.asc hbo.sm nm to hf2
      generalize reO nm to l lost armed left = o at *
      go_upto_region 10 with fail
      have k0 : ∀ w' : World, At w' g5 40 [.int .i64 3, .string nm, .string to, .string bb, .int .i64 n, .slice KA kn kc] → _ := fun w' h => (at6 h).1
      refine region_begin (fun w' : World => At w' g5 40 [.int .i64 3, .string nm, .string to, .string bb, .int .i64 n, .slice KA kn kc]) (by kernel_rfl) (h5.drew) (fun hHeld => ?_)
      replace hbo := hbo.drew
      replace hm := hm.drew
      clear h5 x0 x1 x2 x3 x4 x5 xf
      generalize World.drew _ = w6 at *
      skip
      refine wpAnyH_take (i := 0) (v := ?_) rfl (by kernel_rfl) (by kernel_rfl) (by kernel_rfl) (fun _ _ _ h => h) (Or.inl ⟨by kernel_rfl, ?_⟩) (by assumption) ?_
      rotate_left
      · (intro wS hwS; (try dsimp only at hwS); go_simp; try (first | (with_reducible rfl) | rw [if_pos (by omega)] | rw [if_neg (by omega)]))
      try simp only [Act.put, List.getElem_toArray, List.getElem_cons_succ, List.getElem_cons_zero, List.setIfInBounds_toArray, List.set_cons_zero, List.set_cons_succ]
      refine wpAnyH_take (i := 1) (v := ?_) rfl (by kernel_rfl) (by kernel_rfl) (by kernel_rfl) (fun _ _ _ h => h) (Or.inl ⟨by kernel_rfl, ?_⟩) (by assumption) ?_
      rotate_left
      · (intro wS hwS; (try dsimp only at hwS); go_simp; try (first | (with_reducible rfl) | rw [if_pos (by omega)] | rw [if_neg (by omega)]))
      try simp only [Act.put, List.getElem_toArray, List.getElem_cons_succ, List.getElem_cons_zero, List.setIfInBounds_toArray, List.set_cons_zero, List.set_cons_succ]
      refine wpAnyH_take (i := 2) (v := ?_) rfl (by kernel_rfl) (by kernel_rfl) (by kernel_rfl) (fun _ _ _ h => h) (Or.inl ⟨by kernel_rfl, ?_⟩) (by assumption) ?_
      rotate_left
      · (intro wS hwS; (try dsimp only at hwS); go_simp; try (first | (with_reducible rfl) | rw [if_pos (by omega)] | rw [if_neg (by omega)]))
      try simp only [Act.put, List.getElem_toArray, List.getElem_cons_succ, List.getElem_cons_zero, List.setIfInBounds_toArray, List.set_cons_zero, List.set_cons_succ]
      refine wpAnyH_take (i := 3) (v := ?_) rfl (by kernel_rfl) (by kernel_rfl) (by kernel_rfl) (fun _ _ _ h => h) (Or.inl ⟨by kernel_rfl, ?_⟩) (by assumption) ?_
      rotate_left
      · (intro wS hwS; (try dsimp only at hwS); go_simp; try (first | (with_reducible rfl) | rw [if_pos (by omega)] | rw [if_neg (by omega)]))
      try simp only [Act.put, List.getElem_toArray, List.getElem_cons_succ, List.getElem_cons_zero, List.setIfInBounds_toArray, List.set_cons_zero, List.set_cons_succ]
      refine wpAnyH_take (i := 4) (v := ?_) rfl (by kernel_rfl) (by kernel_rfl) (by kernel_rfl) (fun _ _ _ h => h) (Or.inl ⟨by kernel_rfl, ?_⟩) (by assumption) ?_
      rotate_left
      · (intro wS hwS; (try dsimp only at hwS); go_simp; try (first | (with_reducible rfl) | rw [if_pos (by omega)] | rw [if_neg (by omega)]))
      try simp only [Act.put, List.getElem_toArray, List.getElem_cons_succ, List.getElem_cons_zero, List.setIfInBounds_toArray, List.set_cons_zero, List.set_cons_succ]
      refine wpAnyH_take (i := 6) (v := ?_) rfl (by kernel_rfl) (by kernel_rfl) (by kernel_rfl) (fun _ _ _ h => h) (Or.inl ⟨by kernel_rfl, ?_⟩) (by assumption) ?_
      rotate_left
      · (intro wS hwS; (try dsimp only at hwS); go_simp; try (first | (with_reducible rfl) | rw [if_pos (by omega)] | rw [if_neg (by omega)]))
      try simp only [Act.put, List.getElem_toArray, List.getElem_cons_succ, List.getElem_cons_zero, List.setIfInBounds_toArray, List.set_cons_zero, List.set_cons_succ]
      refine wpAnyH_take (i := 7) (v := ?_) rfl (by kernel_rfl) (by kernel_rfl) (by kernel_rfl) (fun _ _ _ h => h) (Or.inl ⟨by kernel_rfl, ?_⟩) (by assumption) ?_
      rotate_left
      · (intro wS hwS; (try dsimp only at hwS); go_simp; try (first | (with_reducible rfl) | rw [if_pos (by omega)] | rw [if_neg (by omega)]))
      try simp only [Act.put, List.getElem_toArray, List.getElem_cons_succ, List.getElem_cons_zero, List.setIfInBounds_toArray, List.set_cons_zero, List.set_cons_succ]
      refine wpAnyH_take (i := 8) (v := ?_) rfl (by kernel_rfl) (by kernel_rfl) (by kernel_rfl) (fun _ _ _ h => h) (Or.inl ⟨by kernel_rfl, ?_⟩) (by assumption) ?_
      rotate_left
      · (intro wS hwS; (try dsimp only at hwS); go_simp; try (first | (with_reducible rfl) | rw [if_pos (by omega)] | rw [if_neg (by omega)]))
      try simp only [Act.put, List.getElem_toArray, List.getElem_cons_succ, List.getElem_cons_zero, List.setIfInBounds_toArray, List.set_cons_zero, List.set_cons_succ]
      refine wpAnyH_take (i := 9) (v := ?_) rfl (by kernel_rfl) (by kernel_rfl) (by kernel_rfl) (fun _ _ _ h => h) (Or.inl ⟨by kernel_rfl, ?_⟩) (by assumption) ?_
      rotate_left
      · (intro wS hwS; (try dsimp only at hwS); go_simp; try (first | (with_reducible rfl) | rw [if_pos (by omega)] | rw [if_neg (by omega)]))
      try simp only [Act.put, List.getElem_toArray, List.getElem_cons_succ, List.getElem_cons_zero, List.setIfInBounds_toArray, List.set_cons_zero, List.set_cons_succ]
      refine wpAnyH_take (i := 10) (v := ?_) rfl (by kernel_rfl) (by kernel_rfl) (by kernel_rfl) (fun _ _ _ h => h) (Or.inl ⟨by kernel_rfl, ?_⟩) (by assumption) ?_
      rotate_left
      · (intro wS hwS; (try dsimp only at hwS); go_simp; try (first | (with_reducible rfl) | rw [if_pos (by omega)] | rw [if_neg (by omega)]))
      try simp only [Act.put, List.getElem_toArray, List.getElem_cons_succ, List.getElem_cons_zero, List.setIfInBounds_toArray, List.set_cons_zero, List.set_cons_succ]
      refine region_one 5 (by kernel_rfl) rfl (fun K hK => ?_)
      go_simp
      refine (HP _ hbo.dk ).mono ?_
      rintro z w7 ⟨rfl, hm7, l7, hl7, hd7⟩
      have hrf7 := hbo.rf.keep hbo.dk hm7
      have h20 : At _ g5 40 [.int .i64 3, .string nm, .string to, .string bb, .int .i64 n, .slice KA kn kc] := hm7.at hHeld (hbo.dk.freeAt hHeld (by decide))
      clear hHeld
      refine hK.out _ _ (fun w' : World => At w' g5 40 [.int .i64 3, .string nm, .string to, .string bb, .int .i64 n, .slice KA kn kc]) (h20) (fun _ h => h) (fun hHeld => ?_)
      clear hK K
      try simp only [Act.put, List.getElem_toArray, List.getElem_cons_succ, List.getElem_cons_zero, List.setIfInBounds_toArray, List.set_cons_zero, List.set_cons_succ]
      clear h20
      refine region_one 11 (by kernel_rfl) rfl (fun K hK => ?_)
      go_simp
      refine (HR _ hrf7).mono ?_
      rintro z w8 ⟨rfl, hm8, hr8⟩
      have h20 : At _ g5 40 [.int .i64 3, .string nm, .string to, .string bb, .int .i64 n, .slice KA kn kc] := hm8.at hHeld (hrf7.freeAt hHeld (by decide))
      clear hHeld
      refine hK.out _ _ (fun w' : World => At w' g5 40 [.int .i64 3, .string nm, .string to, .string bb, .int .i64 n, .slice KA kn kc]) (h20) (fun _ h => h) (fun hHeld => ?_)
      clear hK K
      try simp only [Act.put, List.getElem_toArray, List.getElem_cons_succ, List.getElem_cons_zero, List.setIfInBounds_toArray, List.set_cons_zero, List.set_cons_succ]
      clear h20
      refine wpAnyH_take (i := 12) (v := ?_) rfl (by kernel_rfl) (by kernel_rfl) (by kernel_rfl) (fun _ _ _ h => h) (Or.inl ⟨by kernel_rfl, ?_⟩) (by assumption) ?_
      rotate_left
      · (intro wS hwS; (try dsimp only at hwS); go_simp; try (first | (with_reducible rfl) | rw [if_pos (by omega)] | rw [if_neg (by omega)]))
      try simp only [Act.put, List.getElem_toArray, List.getElem_cons_succ, List.getElem_cons_zero, List.setIfInBounds_toArray, List.set_cons_zero, List.set_cons_succ]
      refine wpAnyH_take (i := 13) (v := ?_) rfl (by kernel_rfl) (by kernel_rfl) (by kernel_rfl) (fun _ _ _ h => h) (Or.inl ⟨by kernel_rfl, ?_⟩) (by assumption) ?_
      rotate_left
      · (intro wS hwS; (try dsimp only at hwS); go_simp; try (first | (with_reducible rfl) | rw [if_pos (by omega)] | rw [if_neg (by omega)]))
      try simp only [Act.put, List.getElem_toArray, List.getElem_cons_succ, List.getElem_cons_zero, List.setIfInBounds_toArray, List.set_cons_zero, List.set_cons_succ]
      refine wpAnyH_done (by kernel_rfl) ?_ _
      have HE := both_two hob hrf7 hm7 hl7 hd7 hm8 hr8
      clear hrf7 hm7 hl7 hd7 hm8 hr8 hHeld k0 hbo
      obtain ⟨-, hm9, hE⟩ := HE
      have HE2 := Lib.hid hE
      have HM := Lib.hid (hm.trans hm9)
      clear hE hm hm9
      go_wp2_with fail
      go_ret
      exact ⟨rfl, HM.out, HE2.out⟩
    replace e3 : (ki == 3) = false := by simpa using e3
    by_cases e4 : ki = 4
    · subst e4
      have HP := fun (v : World) (h : IsDk v gd bd N l lost armed left) => premove nm hf1 v h
      have HR := fun (v : World) (h : IsRf v gr l lost (rl armed left)) => rremove (armed := armed) nm v h hbo.dk.left0 (by omega)
      have hob := ob_rm (lost := lost) (armed := armed) (left := left) hbo.dk.mp.asc hbo.sm nm
      generalize rmO nm l lost armed left = o at *
      go_upto_region 12 with fail
      have k0 : ∀ w' : World, At w' g5 40 [.int .i64 4, .string nm, .string to, .string bb, .int .i64 n, .slice KA kn kc] → _ := fun w' h => (at6 h).1
      refine region_begin (fun w' : World => At w' g5 40 [.int .i64 4, .string nm, .string to, .string bb, .int .i64 n, .slice KA kn kc]) (by kernel_rfl) (h5.drew) (fun hHeld => ?_)
      replace hbo := hbo.drew
      replace hm := hm.drew
      clear h5 x0 x1 x2 x3 x4 x5 xf
      generalize World.drew _ = w6 at *
      skip
      refine wpAnyH_take (i := 0) (v := ?_) rfl (by kernel_rfl) (by kernel_rfl) (by kernel_rfl) (fun _ _ _ h => h) (Or.inl ⟨by kernel_rfl, ?_⟩) (by assumption) ?_
      rotate_left
      · (intro wS hwS; (try dsimp only at hwS); go_simp; try (first | (with_reducible rfl) | rw [if_pos (by omega)] | rw [if_neg (by omega)]))
      try simp only [Act.put, List.getElem_toArray, List.getElem_cons_succ, List.getElem_cons_zero, List.setIfInBounds_toArray, List.set_cons_zero, List.set_cons_succ]
      refine wpAnyH_take (i := 1) (v := ?_) rfl (by kernel_rfl) (by kernel_rfl) (by kernel_rfl) (fun _ _ _ h => h) (Or.inl ⟨by kernel_rfl, ?_⟩) (by assumption) ?_
      rotate_left
      · (intro wS hwS; (try dsimp only at hwS); go_simp; try (first | (with_reducible rfl) | rw [if_pos (by omega)] | rw [if_neg (by omega)]))
      try simp only [Act.put, List.getElem_toArray, List.getElem_cons_succ, List.getElem_cons_zero, List.setIfInBounds_toArray, List.set_cons_zero, List.set_cons_succ]
      refine wpAnyH_take (i := 2) (v := ?_) rfl (by kernel_rfl) (by kernel_rfl) (by kernel_rfl) (fun _ _ _ h => h) (Or.inl ⟨by kernel_rfl, ?_⟩) (by assumption) ?_
      rotate_left
      · (intro wS hwS; (try dsimp only at hwS); go_simp; try (first | (with_reducible rfl) | rw [if_pos (by omega)] | rw [if_neg (by omega)]))
      try simp only [Act.put, List.getElem_toArray, List.getElem_cons_succ, List.getElem_cons_zero, List.setIfInBounds_toArray, List.set_cons_zero, List.set_cons_succ]
      refine wpAnyH_take (i := 4) (v := ?_) rfl (by kernel_rfl) (by kernel_rfl) (by kernel_rfl) (fun _ _ _ h => h) (Or.inl ⟨by kernel_rfl, ?_⟩) (by assumption) ?_
      rotate_left
      · (intro wS hwS; (try dsimp only at hwS); go_simp; try (first | (with_reducible rfl) | rw [if_pos (by omega)] | rw [if_neg (by omega)]))
      try simp only [Act.put, List.getElem_toArray, List.getElem_cons_succ, List.getElem_cons_zero, List.setIfInBounds_toArray, List.set_cons_zero, List.set_cons_succ]
      refine wpAnyH_take (i := 5) (v := ?_) rfl (by kernel_rfl) (by kernel_rfl) (by kernel_rfl) (fun _ _ _ h => h) (Or.inl ⟨by kernel_rfl, ?_⟩) (by assumption) ?_
      rotate_left
      · (intro wS hwS; (try dsimp only at hwS); go_simp; try (first | (with_reducible rfl) | rw [if_pos (by omega)] | rw [if_neg (by omega)]))
      try simp only [Act.put, List.getElem_toArray, List.getElem_cons_succ, List.getElem_cons_zero, List.setIfInBounds_toArray, List.set_cons_zero, List.set_cons_succ]
      refine wpAnyH_take (i := 6) (v := ?_) rfl (by kernel_rfl) (by kernel_rfl) (by kernel_rfl) (fun _ _ _ h => h) (Or.inl ⟨by kernel_rfl, ?_⟩) (by assumption) ?_
      rotate_left
      · (intro wS hwS; (try dsimp only at hwS); go_simp; try (first | (with_reducible rfl) | rw [if_pos (by omega)] | rw [if_neg (by omega)]))
      try simp only [Act.put, List.getElem_toArray, List.getElem_cons_succ, List.getElem_cons_zero, List.setIfInBounds_toArray, List.set_cons_zero, List.set_cons_succ]
      refine region_one 3 (by kernel_rfl) rfl (fun K hK => ?_)
      go_simp
      refine (HP _ hbo.dk ).mono ?_
      rintro z w7 ⟨rfl, hm7, l7, hl7, hd7⟩
      have hrf7 := hbo.rf.keep hbo.dk hm7
      have h20 : At _ g5 40 [.int .i64 4, .string nm, .string to, .string bb, .int .i64 n, .slice KA kn kc] := hm7.at hHeld (hbo.dk.freeAt hHeld (by decide))
      clear hHeld
      refine hK.out _ _ (fun w' : World => At w' g5 40 [.int .i64 4, .string nm, .string to, .string bb, .int .i64 n, .slice KA kn kc]) (h20) (fun _ h => h) (fun hHeld => ?_)
      clear hK K
      try simp only [Act.put, List.getElem_toArray, List.getElem_cons_succ, List.getElem_cons_zero, List.setIfInBounds_toArray, List.set_cons_zero, List.set_cons_succ]
      clear h20
      refine region_one 7 (by kernel_rfl) rfl (fun K hK => ?_)
      go_simp
      refine (HR _ hrf7).mono ?_
      rintro z w8 ⟨rfl, hm8, hr8⟩
      have h20 : At _ g5 40 [.int .i64 4, .string nm, .string to, .string bb, .int .i64 n, .slice KA kn kc] := hm8.at hHeld (hrf7.freeAt hHeld (by decide))
      clear hHeld
      refine hK.out _ _ (fun w' : World => At w' g5 40 [.int .i64 4, .string nm, .string to, .string bb, .int .i64 n, .slice KA kn kc]) (h20) (fun _ h => h) (fun hHeld => ?_)
      clear hK K
      try simp only [Act.put, List.getElem_toArray, List.getElem_cons_succ, List.getElem_cons_zero, List.setIfInBounds_toArray, List.set_cons_zero, List.set_cons_succ]
      clear h20
      refine wpAnyH_take (i := 8) (v := ?_) rfl (by kernel_rfl) (by kernel_rfl) (by kernel_rfl) (fun _ _ _ h => h) (Or.inl ⟨by kernel_rfl, ?_⟩) (by assumption) ?_
      rotate_left
      · (intro wS hwS; (try dsimp only at hwS); go_simp; try (first | (with_reducible rfl) | rw [if_pos (by omega)] | rw [if_neg (by omega)]))
      try simp only [Act.put, List.getElem_toArray, List.getElem_cons_succ, List.getElem_cons_zero, List.setIfInBounds_toArray, List.set_cons_zero, List.set_cons_succ]
      refine wpAnyH_take (i := 9) (v := ?_) rfl (by kernel_rfl) (by kernel_rfl) (by kernel_rfl) (fun _ _ _ h => h) (Or.inl ⟨by kernel_rfl, ?_⟩) (by assumption) ?_
      rotate_left
      · (intro wS hwS; (try dsimp only at hwS); go_simp; try (first | (with_reducible rfl) | rw [if_pos (by omega)] | rw [if_neg (by omega)]))
      try simp only [Act.put, List.getElem_toArray, List.getElem_cons_succ, List.getElem_cons_zero, List.setIfInBounds_toArray, List.set_cons_zero, List.set_cons_succ]
      refine wpAnyH_done (by kernel_rfl) ?_ _
      have HE := both_two hob hrf7 hm7 hl7 hd7 hm8 hr8
      clear hrf7 hm7 hl7 hd7 hm8 hr8 hHeld k0 hbo
      obtain ⟨-, hm9, hE⟩ := HE
      have HE2 := Lib.hid hE
      have HM := Lib.hid (hm.trans hm9)
      clear hE hm hm9
      go_wp2_with fail
      go_ret
      exact ⟨rfl, HM.out, HE2.out⟩
    replace e4 : (ki == 4) = false := by simpa using e4
    by_cases e5 : ki = 5
    · subst e5
      have HP := fun (v : World) (h : IsDk v gd bd N l lost armed left) => pcut nm n hf1 v h (by omega) (Nat.le_trans (get_bd hbo.sm nm) (by omega))
      have HR := fun (v : World) (h : IsRf v gr l lost (rl armed left)) => rcut (armed := armed) nm n v h hbo.dk.left0 (by omega) (Nat.le_trans (get_bd hbo.sm nm) (by omega))
      have hob := ob_cu (lost := lost) (armed := armed) (left := left) hbo.dk.mp.asc hbo.sm nm n hf1
      generalize cuO nm n l lost armed left = o at *
      go_upto_region 14 with fail
      have k0 : ∀ w' : World, At w' g5 40 [.int .i64 5, .string nm, .string to, .string bb, .int .i64 n, .slice KA kn kc] → _ := fun w' h => (at6 h).1
      refine region_begin (fun w' : World => At w' g5 40 [.int .i64 5, .string nm, .string to, .string bb, .int .i64 n, .slice KA kn kc]) (by kernel_rfl) (h5.drew) (fun hHeld => ?_)
      replace hbo := hbo.drew
      replace hm := hm.drew
      clear h5 x0 x1 x2 x3 x4 x5 xf
      generalize World.drew _ = w6 at *
      skip
      refine wpAnyH_take (i := 0) (v := ?_) rfl (by kernel_rfl) (by kernel_rfl) (by kernel_rfl) (fun _ _ _ h => h) (Or.inl ⟨by kernel_rfl, ?_⟩) (by assumption) ?_
      rotate_left
      · (intro wS hwS; (try dsimp only at hwS); go_simp; try (first | (with_reducible rfl) | rw [if_pos (by omega)] | rw [if_neg (by omega)]))
      try simp only [Act.put, List.getElem_toArray, List.getElem_cons_succ, List.getElem_cons_zero, List.setIfInBounds_toArray, List.set_cons_zero, List.set_cons_succ]
      refine wpAnyH_take (i := 1) (v := ?_) rfl (by kernel_rfl) (by kernel_rfl) (by kernel_rfl) (fun _ _ _ h => h) (Or.inl ⟨by kernel_rfl, ?_⟩) (by assumption) ?_
      rotate_left
      · (intro wS hwS; (try dsimp only at hwS); go_simp; try (first | (with_reducible rfl) | rw [if_pos (by omega)] | rw [if_neg (by omega)]))
      try simp only [Act.put, List.getElem_toArray, List.getElem_cons_succ, List.getElem_cons_zero, List.setIfInBounds_toArray, List.set_cons_zero, List.set_cons_succ]
      refine wpAnyH_take (i := 2) (v := ?_) rfl (by kernel_rfl) (by kernel_rfl) (by kernel_rfl) (fun _ _ _ h => h) (Or.inl ⟨by kernel_rfl, ?_⟩) (by assumption) ?_
      rotate_left
      · (intro wS hwS; (try dsimp only at hwS); go_simp; try (first | (with_reducible rfl) | rw [if_pos (by omega)] | rw [if_neg (by omega)]))
      try simp only [Act.put, List.getElem_toArray, List.getElem_cons_succ, List.getElem_cons_zero, List.setIfInBounds_toArray, List.set_cons_zero, List.set_cons_succ]
      refine wpAnyH_take (i := 3) (v := ?_) rfl (by kernel_rfl) (by kernel_rfl) (by kernel_rfl) (fun _ _ _ h => h) (Or.inl ⟨by kernel_rfl, ?_⟩) (by assumption) ?_
      rotate_left
      · (intro wS hwS; (try dsimp only at hwS); go_simp; try (first | (with_reducible rfl) | rw [if_pos (by omega)] | rw [if_neg (by omega)]))
      try simp only [Act.put, List.getElem_toArray, List.getElem_cons_succ, List.getElem_cons_zero, List.setIfInBounds_toArray, List.set_cons_zero, List.set_cons_succ]
      refine wpAnyH_take (i := 4) (v := ?_) rfl (by kernel_rfl) (by kernel_rfl) (by kernel_rfl) (fun _ _ _ h => h) (Or.inl ⟨by kernel_rfl, ?_⟩) (by assumption) ?_
      rotate_left
      · (intro wS hwS; (try dsimp only at hwS); go_simp; try (first | (with_reducible rfl) | rw [if_pos (by omega)] | rw [if_neg (by omega)]))
      try simp only [Act.put, List.getElem_toArray, List.getElem_cons_succ, List.getElem_cons_zero, List.setIfInBounds_toArray, List.set_cons_zero, List.set_cons_succ]
      refine wpAnyH_take (i := 6) (v := ?_) rfl (by kernel_rfl) (by kernel_rfl) (by kernel_rfl) (fun _ _ _ h => h) (Or.inl ⟨by kernel_rfl, ?_⟩) (by assumption) ?_
      rotate_left
      · (intro wS hwS; (try dsimp only at hwS); go_simp; try (first | (with_reducible rfl) | rw [if_pos (by omega)] | rw [if_neg (by omega)]))
      try simp only [Act.put, List.getElem_toArray, List.getElem_cons_succ, List.getElem_cons_zero, List.setIfInBounds_toArray, List.set_cons_zero, List.set_cons_succ]
      refine wpAnyH_take (i := 7) (v := ?_) rfl (by kernel_rfl) (by kernel_rfl) (by kernel_rfl) (fun _ _ _ h => h) (Or.inl ⟨by kernel_rfl, ?_⟩) (by assumption) ?_
      rotate_left
      · (intro wS hwS; (try dsimp only at hwS); go_simp; try (first | (with_reducible rfl) | rw [if_pos (by omega)] | rw [if_neg (by omega)]))
      try simp only [Act.put, List.getElem_toArray, List.getElem_cons_succ, List.getElem_cons_zero, List.setIfInBounds_toArray, List.set_cons_zero, List.set_cons_succ]
      refine wpAnyH_take (i := 8) (v := ?_) rfl (by kernel_rfl) (by kernel_rfl) (by kernel_rfl) (fun _ _ _ h => h) (Or.inl ⟨by kernel_rfl, ?_⟩) (by assumption) ?_
      rotate_left
      · (intro wS hwS; (try dsimp only at hwS); go_simp; try (first | (with_reducible rfl) | rw [if_pos (by omega)] | rw [if_neg (by omega)]))
      try simp only [Act.put, List.getElem_toArray, List.getElem_cons_succ, List.getElem_cons_zero, List.setIfInBounds_toArray, List.set_cons_zero, List.set_cons_succ]
      refine wpAnyH_take (i := 9) (v := ?_) rfl (by kernel_rfl) (by kernel_rfl) (by kernel_rfl) (fun _ _ _ h => h) (Or.inl ⟨by kernel_rfl, ?_⟩) (by assumption) ?_
      rotate_left
      · (intro wS hwS; (try dsimp only at hwS); go_simp; try (first | (with_reducible rfl) | rw [if_pos (by omega)] | rw [if_neg (by omega)]))
      try simp only [Act.put, List.getElem_toArray, List.getElem_cons_succ, List.getElem_cons_zero, List.setIfInBounds_toArray, List.set_cons_zero, List.set_cons_succ]
      refine wpAnyH_take (i := 10) (v := ?_) rfl (by kernel_rfl) (by kernel_rfl) (by kernel_rfl) (fun _ _ _ h => h) (Or.inl ⟨by kernel_rfl, ?_⟩) (by assumption) ?_
      rotate_left
      · (intro wS hwS; (try dsimp only at hwS); go_simp; try (first | (with_reducible rfl) | rw [if_pos (by omega)] | rw [if_neg (by omega)]))
      try simp only [Act.put, List.getElem_toArray, List.getElem_cons_succ, List.getElem_cons_zero, List.setIfInBounds_toArray, List.set_cons_zero, List.set_cons_succ]
      refine region_one 5 (by kernel_rfl) rfl (fun K hK => ?_)
      go_simp
      refine (HP _ hbo.dk ).mono ?_
      rintro z w7 ⟨rfl, hm7, l7, hl7, hd7⟩
      have hrf7 := hbo.rf.keep hbo.dk hm7
      have h20 : At _ g5 40 [.int .i64 5, .string nm, .string to, .string bb, .int .i64 n, .slice KA kn kc] := hm7.at hHeld (hbo.dk.freeAt hHeld (by decide))
      clear hHeld
      refine hK.out _ _ (fun w' : World => At w' g5 40 [.int .i64 5, .string nm, .string to, .string bb, .int .i64 n, .slice KA kn kc]) (h20) (fun _ h => h) (fun hHeld => ?_)
      clear hK K
      try simp only [Act.put, List.getElem_toArray, List.getElem_cons_succ, List.getElem_cons_zero, List.setIfInBounds_toArray, List.set_cons_zero, List.set_cons_succ]
      clear h20
      refine region_one 11 (by kernel_rfl) rfl (fun K hK => ?_)
      go_simp
      refine (HR _ hrf7).mono ?_
      rintro z w8 ⟨rfl, hm8, hr8⟩
      have h20 : At _ g5 40 [.int .i64 5, .string nm, .string to, .string bb, .int .i64 n, .slice KA kn kc] := hm8.at hHeld (hrf7.freeAt hHeld (by decide))
      clear hHeld
      refine hK.out _ _ (fun w' : World => At w' g5 40 [.int .i64 5, .string nm, .string to, .string bb, .int .i64 n, .slice KA kn kc]) (h20) (fun _ h => h) (fun hHeld => ?_)
      clear hK K
      try simp only [Act.put, List.getElem_toArray, List.getElem_cons_succ, List.getElem_cons_zero, List.setIfInBounds_toArray, List.set_cons_zero, List.set_cons_succ]
      clear h20
      refine wpAnyH_take (i := 12) (v := ?_) rfl (by kernel_rfl) (by kernel_rfl) (by kernel_rfl) (fun _ _ _ h => h) (Or.inl ⟨by kernel_rfl, ?_⟩) (by assumption) ?_
      rotate_left
      · (intro wS hwS; (try dsimp only at hwS); go_simp; try (first | (with_reducible rfl) | rw [if_pos (by omega)] | rw [if_neg (by omega)]))
      try simp only [Act.put, List.getElem_toArray, List.getElem_cons_succ, List.getElem_cons_zero, List.setIfInBounds_toArray, List.set_cons_zero, List.set_cons_succ]
      refine wpAnyH_take (i := 13) (v := ?_) rfl (by kernel_rfl) (by kernel_rfl) (by kernel_rfl) (fun _ _ _ h => h) (Or.inl ⟨by kernel_rfl, ?_⟩) (by assumption) ?_
      rotate_left
      · (intro wS hwS; (try dsimp only at hwS); go_simp; try (first | (with_reducible rfl) | rw [if_pos (by omega)] | rw [if_neg (by omega)]))
      try simp only [Act.put, List.getElem_toArray, List.getElem_cons_succ, List.getElem_cons_zero, List.setIfInBounds_toArray, List.set_cons_zero, List.set_cons_succ]
      refine wpAnyH_done (by kernel_rfl) ?_ _
      have HE := both_two hob hrf7 hm7 hl7 hd7 hm8 hr8
      clear hrf7 hm7 hl7 hd7 hm8 hr8 hHeld k0 hbo
      obtain ⟨-, hm9, hE⟩ := HE
      have HE2 := Lib.hid hE
      have HM := Lib.hid (hm.trans hm9)
      clear hE hm hm9
      go_wp2_with fail
      go_ret
      exact ⟨rfl, HM.out, HE2.out⟩
    replace e5 : (ki == 5) = false := by simpa using e5
    by_cases e6 : ki = 6
    · subst e6
      have HP := arm_any n hf4.2 w5 hbo.dk
      go_upto_region 17 with (((with_reducible refine (HP).mono ?_); rintro z w6 ⟨rfl, hd6, hG6⟩))
      have hm6 : Mod (fun i _ => i = gd ∨ i = bd) w5 w6 := (mod_one hG6).mono fun i o _ _ e => .inl e
      have hrf6 := hbo.rf.keep hbo.dk hm6
      have HR := rarm_any n w6 hrf6
      replace h5 := hm6.at h5 (hbo.dk.freeAt h5 (by decide))
      clear HP hG6 x0 x1 x2 x3 x4 x5 xf
      obtain ⟨⟨x0, x1, x2, x3, x4, x5⟩, xf⟩ := at6 h5
      go_upto_region 21 with (((with_reducible refine (HR).mono ?_); rintro z w7 ⟨rfl, hr7, hG7⟩))
      have hm7 := mod_one hG7
      have HE := Lib.hid (show Both w7 gd bd gr N l lost true (if n < 0 then 0 else n) (M + 50) from ⟨hd6.keep hrf6 hm7, hr7, hbo.sm.mono (by omega)⟩)
      have HM := Lib.hid ((hm.trans (mod_dk hm6)).trans (mod_rf hm7))
      clear HR hG7 hm7 hr7 hrf6 hd6 hm6 hbo h5 hm x0 x1 x2 x3 x4 x5 xf
      go_wp2_with fail
      go_ret
      exact ⟨rfl, HM.out, N, l, lost, true, _, HE.out, by omega, by omega⟩
    replace e6 : (ki == 6) = false := by simpa using e6
    by_cases e7 : ki = 7
    · subst e7
      have hsd : ∀ x ∈ l, 0 ≤ x.s ∧ x.s ≤ x.b.length ∧ x.b.length ≤ 100000000 := fun x hx => ⟨(hbo.dk.own x hx).2.1, (hbo.dk.own x hx).2.2, Nat.le_trans (hbo.sm x hx).1 (by omega)⟩
      have HP := crash_any KA kn kc ks w5 hbo.dk (by omega) (by omega) (fun v hv => HK.out v (hm.trans (hv.mono fun i o _ _ e => .inr (.inl e)))) HKS.out (fun x hx => ⟨Nat.le_trans (hbo.sm x hx).1 (by omega), (hbo.sm x hx).2⟩)
      go_upto_region 20 with (((with_reducible refine (HP).mono ?_); rintro z w6 ⟨rfl, hm6, l6, hl6, hd6⟩))
      have hrf6 := hbo.rf.keep hbo.dk hm6
      have HR := rcrash_any KA kn kc ks w6 hrf6 (HK.out _ (hm.trans (mod_dk hm6))) HKS.out (by omega) hsd
      replace h5 := hm6.at h5 (hbo.dk.freeAt h5 (by decide))
      clear HP x0 x1 x2 x3 x4 x5 xf
      obtain ⟨⟨x0, x1, x2, x3, x4, x5⟩, xf⟩ := at6 h5
      go_upto_region 21 with (((with_reducible refine (HR).mono ?_); rintro z w7 ⟨rfl, hm7, hr7⟩))
      have hl6' : l6.length = l.length := by have := congrArg List.length hl6; rw [List.length_map, crashF_length] at this; exact this
      have hrow : l6.flatMap Fi.row = (crashF ks 0 l).flatMap Fi.row := by rw [← hl6]; exact (flatMap_core l6).symm
      have HE := Lib.hid (show Both w7 gd bd gr (N + l.length) l6 false false 0 (M + 50) from ⟨hd6.keep hrf6 hm7, hr7.same hrow, crash_bd hl6 (hbo.sm.mono (by omega))⟩)
      have HM := Lib.hid ((hm.trans (mod_dk hm6)).trans (mod_rf hm7))
      clear HR hm7 hr7 hrf6 hd6 hm6 hbo h5 hm hl6 hrow hsd x0 x1 x2 x3 x4 x5 xf
      go_wp2_with fail
      go_ret
      exact ⟨rfl, HM.out, N + l.length, l6, false, false, 0, HE.out, by omega, by omega⟩
    replace e7 : (ki == 7) = false := by simpa using e7
    have HE := Lib.hid hbo
    have HM := Lib.hid hm
    clear hbo h5 hm
    go_wp2_with fail
    go_ret
    exact ⟨rfl, HM.out, N, l, lost, armed, left, ⟨HE.out.dk, HE.out.rf, HE.out.sm.mono (by omega)⟩, by omega, by omega⟩
  · have hd50 : decide (50 < (b.size : Int)) = false := decide_eq_false (by omega)
    have hbs : b.size ≤ 50 := by omega
    go_upto_region 3 with fail
    generalize b = bb at *
    generalize w1 = w5 at *
    have hfs : nm.size ≤ maxLen := hf1
    by_cases e0 : ki = 0
    · subst e0
      have HP := fun (A : Option Addr) (n c : Nat) (v : World) (h : IsDk v gd bd N l lost armed left) (hr : ∀ u, v.grownBy u (some gd) → RdB u u.heap.size A n c bb.data.toList) (hn : n ≤ 100000000) => papp nm hf1 A n c bb.data.toList v h hr hn (by omega) (fun x hx => Nat.le_trans (hbo.sm x hx).1 (by omega))
      have HR := fun (v : World) (h : IsRf v gr l lost (rl armed left)) => rapp (armed := armed) nm bb.data.toList v h hbo.dk.left0 (by omega) (by have := get_bd hbo.sm nm; have e : bb.data.toList.length = bb.size := Array.length_toList; omega)
      rw [show (⟨bb.data.toList.toArray⟩ : ByteArray) = bb by rw [Array.toArray_toList]] at HR
      have hob := ob_ap (lost := lost) (armed := armed) (left := left) hbo.dk.mp.asc hbo.sm nm hf1 (y := bb.data.toList) (by have e : bb.data.toList.length = bb.size := Array.length_toList; omega)
      generalize apO nm bb.data.toList l lost armed left = o at *
      go_upto_region 6 with fail
      have k0 : ∀ w' : World, At w' g5 40 [.int .i64 0, .string nm, .string to, .string bb, .int .i64 n, .slice KA kn kc] → _ := fun w' h => (at6 h).1
      refine region_begin (fun w' : World => At w' g5 40 [.int .i64 0, .string nm, .string to, .string bb, .int .i64 n, .slice KA kn kc]) (by kernel_rfl) (h5.drew) (fun hHeld => ?_)
      replace hbo := hbo.drew
      replace hm := hm.drew
      clear h5 x0 x1 x2 x3 x4 x5 xf
      generalize World.drew _ = w6 at *
      obtain ⟨cap, w7, hcv, hcr, hcb⟩ := conv_bytes6 bb w6 (by omega)
      have hne : gd ≠ w6.heap.size := by have := hbo.dk.lt; omega
      refine wpAnyH_take (i := 0) (v := ?_) rfl (by kernel_rfl) (by kernel_rfl) (by kernel_rfl) (fun _ _ _ h => h) (Or.inl ⟨by kernel_rfl, ?_⟩) (by assumption) ?_
      rotate_left
      · (intro wS hwS; (try dsimp only at hwS); go_simp; try (first | (with_reducible rfl) | rw [if_pos (by omega)] | rw [if_neg (by omega)]))
      try simp only [Act.put, List.getElem_toArray, List.getElem_cons_succ, List.getElem_cons_zero, List.setIfInBounds_toArray, List.set_cons_zero, List.set_cons_succ]
      refine wpAnyH_take (i := 1) (v := ?_) rfl (by kernel_rfl) (by kernel_rfl) (by kernel_rfl) (fun _ _ _ h => h) (Or.inl ⟨by kernel_rfl, ?_⟩) (by assumption) ?_
      rotate_left
      · (intro wS hwS; (try dsimp only at hwS); go_simp; try (first | (with_reducible rfl) | rw [if_pos (by omega)] | rw [if_neg (by omega)]))
      try simp only [Act.put, List.getElem_toArray, List.getElem_cons_succ, List.getElem_cons_zero, List.setIfInBounds_toArray, List.set_cons_zero, List.set_cons_succ]
      refine wpAnyH_take (i := 2) (v := ?_) rfl (by kernel_rfl) (by kernel_rfl) (by kernel_rfl) (fun _ _ _ h => h) (Or.inl ⟨by kernel_rfl, ?_⟩) (by assumption) ?_
      rotate_left
      · (intro wS hwS; (try dsimp only at hwS); go_simp; try (first | (with_reducible rfl) | rw [if_pos (by omega)] | rw [if_neg (by omega)]))
      try simp only [Act.put, List.getElem_toArray, List.getElem_cons_succ, List.getElem_cons_zero, List.setIfInBounds_toArray, List.set_cons_zero, List.set_cons_succ]
      refine wpAnyH_take (i := 3) (v := ?_) rfl (by kernel_rfl) (by kernel_rfl) (by kernel_rfl) (fun _ _ _ h => h) (Or.inl ⟨by kernel_rfl, ?_⟩) (by assumption) ?_
      rotate_left
      · (intro wS hwS; (try dsimp only at hwS); go_simp; try (first | (with_reducible rfl) | rw [if_pos (by omega)] | rw [if_neg (by omega)]))
      try simp only [Act.put, List.getElem_toArray, List.getElem_cons_succ, List.getElem_cons_zero, List.setIfInBounds_toArray, List.set_cons_zero, List.set_cons_succ]
      refine wpAnyH_take (i := 4) (v := ?_) rfl (by kernel_rfl) (by kernel_rfl) (by kernel_rfl) (fun _ _ _ h => h) (Or.inl ⟨by kernel_rfl, ?_⟩) (by assumption) ?_
      rotate_left
      · (intro wS hwS; (try dsimp only at hwS); go_simp; try (first | (with_reducible rfl) | rw [if_pos (by omega)] | rw [if_neg (by omega)]))
      try simp only [Act.put, List.getElem_toArray, List.getElem_cons_succ, List.getElem_cons_zero, List.setIfInBounds_toArray, List.set_cons_zero, List.set_cons_succ]
      refine wpAnyH_take (i := 7) (v := ?_) rfl (by kernel_rfl) (by kernel_rfl) (by kernel_rfl) (fun _ _ _ h => h) (Or.inl ⟨by kernel_rfl, ?_⟩) (by assumption) ?_
      rotate_left
      · (intro wS hwS; (try dsimp only at hwS); go_simp; try (first | (with_reducible rfl) | rw [if_pos (by omega)] | rw [if_neg (by omega)]))
      try simp only [Act.put, List.getElem_toArray, List.getElem_cons_succ, List.getElem_cons_zero, List.setIfInBounds_toArray, List.set_cons_zero, List.set_cons_succ]
      refine wpAnyH_take (i := 8) (v := ?_) rfl (by kernel_rfl) (by kernel_rfl) (by kernel_rfl) (fun _ _ _ h => h) (Or.inl ⟨by kernel_rfl, ?_⟩) (by assumption) ?_
      rotate_left
      · (intro wS hwS; (try dsimp only at hwS); go_simp; try (first | (with_reducible rfl) | rw [if_pos (by omega)] | rw [if_neg (by omega)]))
      try simp only [Act.put, List.getElem_toArray, List.getElem_cons_succ, List.getElem_cons_zero, List.setIfInBounds_toArray, List.set_cons_zero, List.set_cons_succ]
      refine wpAnyH_take (i := 9) (v := ?_) rfl (by kernel_rfl) (by kernel_rfl) (by kernel_rfl) (fun _ _ _ h => h) (Or.inl ⟨by kernel_rfl, ?_⟩) (by assumption) ?_
      rotate_left
      · (intro wS hwS; (try dsimp only at hwS); go_simp; try (first | (with_reducible rfl) | rw [if_pos (by omega)] | rw [if_neg (by omega)]))
      try simp only [Act.put, List.getElem_toArray, List.getElem_cons_succ, List.getElem_cons_zero, List.setIfInBounds_toArray, List.set_cons_zero, List.set_cons_succ]
      refine wpAnyH_take (i := 10) (v := ?_) rfl (by kernel_rfl) (by kernel_rfl) (by kernel_rfl) (fun _ _ _ h => h) (Or.inl ⟨by kernel_rfl, ?_⟩) (by assumption) ?_
      rotate_left
      · (intro wS hwS; (try dsimp only at hwS); go_simp; try (first | (with_reducible rfl) | rw [if_pos (by omega)] | rw [if_neg (by omega)]))
      try simp only [Act.put, List.getElem_toArray, List.getElem_cons_succ, List.getElem_cons_zero, List.setIfInBounds_toArray, List.set_cons_zero, List.set_cons_succ]
      refine wpAnyH_take (i := 11) (v := ?_) rfl (by kernel_rfl) (by kernel_rfl) (by kernel_rfl) (fun _ _ _ h => h) (Or.inl ⟨by kernel_rfl, ?_⟩) (by assumption) ?_
      rotate_left
      · (intro wS hwS; (try dsimp only at hwS); go_simp; try (first | (with_reducible rfl) | rw [if_pos (by omega)] | rw [if_neg (by omega)]))
      try simp only [Act.put, List.getElem_toArray, List.getElem_cons_succ, List.getElem_cons_zero, List.setIfInBounds_toArray, List.set_cons_zero, List.set_cons_succ]
      refine region_one 5 (by kernel_rfl) rfl (fun K hK => ?_)
      go_simp
      have h20 : At _ g5 40 [.int .i64 0, .string nm, .string to, .string bb, .int .i64 n, .slice KA kn kc] := hHeld.step hcb
      replace hbo := hbo.step hcb
      replace hm := hm.below hcb
      clear hHeld
      refine hK.out _ _ (fun w' : World => At w' g5 40 [.int .i64 0, .string nm, .string to, .string bb, .int .i64 n, .slice KA kn kc]) (h20) (fun _ h => h) (fun hHeld => ?_)
      clear hK K
      try simp only [Act.put, List.getElem_toArray, List.getElem_cons_succ, List.getElem_cons_zero, List.setIfInBounds_toArray, List.set_cons_zero, List.set_cons_succ]
      clear h20 hcv
      refine region_one 6 (by kernel_rfl) rfl (fun K hK => ?_)
      go_simp
      refine (HP _ _ _ _ hbo.dk (fun u hG => hcr.keepM (grown_mod hG) (fun o e => hne (Option.some.inj e)) (Nat.le_refl _)) (by omega)).mono ?_
      rintro z w8 ⟨rfl, hm7, l7, hl7, hd7⟩
      have hrf7 := hbo.rf.keep hbo.dk hm7
      have h20 : At _ g5 40 [.int .i64 0, .string nm, .string to, .string bb, .int .i64 n, .slice KA kn kc] := hm7.at hHeld (hbo.dk.freeAt hHeld (by decide))
      clear hHeld hcr hcb
      refine hK.out _ _ (fun w' : World => At w' g5 40 [.int .i64 0, .string nm, .string to, .string bb, .int .i64 n, .slice KA kn kc]) (h20) (fun _ h => h) (fun hHeld => ?_)
      clear hK K
      try simp only [Act.put, List.getElem_toArray, List.getElem_cons_succ, List.getElem_cons_zero, List.setIfInBounds_toArray, List.set_cons_zero, List.set_cons_succ]
      clear h20
      refine region_one 12 (by kernel_rfl) rfl (fun K hK => ?_)
      go_simp
      refine (HR _ hrf7).mono ?_
      rintro z w9 ⟨rfl, hm8, hr8⟩
      have h20 : At _ g5 40 [.int .i64 0, .string nm, .string to, .string bb, .int .i64 n, .slice KA kn kc] := hm8.at hHeld (hrf7.freeAt hHeld (by decide))
      clear hHeld
      refine hK.out _ _ (fun w' : World => At w' g5 40 [.int .i64 0, .string nm, .string to, .string bb, .int .i64 n, .slice KA kn kc]) (h20) (fun _ h => h) (fun hHeld => ?_)
      clear hK K
      try simp only [Act.put, List.getElem_toArray, List.getElem_cons_succ, List.getElem_cons_zero, List.setIfInBounds_toArray, List.set_cons_zero, List.set_cons_succ]
      clear h20
      refine wpAnyH_take (i := 13) (v := ?_) rfl (by kernel_rfl) (by kernel_rfl) (by kernel_rfl) (fun _ _ _ h => h) (Or.inl ⟨by kernel_rfl, ?_⟩) (by assumption) ?_
      rotate_left
      · (intro wS hwS; (try dsimp only at hwS); go_simp; try (first | (with_reducible rfl) | rw [if_pos (by omega)] | rw [if_neg (by omega)]))
      try simp only [Act.put, List.getElem_toArray, List.getElem_cons_succ, List.getElem_cons_zero, List.setIfInBounds_toArray, List.set_cons_zero, List.set_cons_succ]
      refine wpAnyH_take (i := 14) (v := ?_) rfl (by kernel_rfl) (by kernel_rfl) (by kernel_rfl) (fun _ _ _ h => h) (Or.inl ⟨by kernel_rfl, ?_⟩) (by assumption) ?_
      rotate_left
      · (intro wS hwS; (try dsimp only at hwS); go_simp; try (first | (with_reducible rfl) | rw [if_pos (by omega)] | rw [if_neg (by omega)]))
      try simp only [Act.put, List.getElem_toArray, List.getElem_cons_succ, List.getElem_cons_zero, List.setIfInBounds_toArray, List.set_cons_zero, List.set_cons_succ]
      refine wpAnyH_done (by kernel_rfl) ?_ _
      have HE := both_two hob hrf7 hm7 hl7 hd7 hm8 hr8
      clear hrf7 hm7 hl7 hd7 hm8 hr8 hHeld k0 hbo
      obtain ⟨-, hm9, hE⟩ := HE
      have HE2 := Lib.hid hE
      have HM := Lib.hid (hm.trans hm9)
      clear hE hm hm9
      go_wp2_with fail
      go_ret
      exact ⟨rfl, HM.out, HE2.out⟩
    replace e0 : (ki == 0) = false := by simpa using e0
    by_cases e1 : ki = 1
    · subst e1
      have HP := fun (A : Option Addr) (n c : Nat) (v : World) (h : IsDk v gd bd N l lost armed left) (hr : ∀ u, v.grownBy u (some gd) → RdB u u.heap.size A n c bb.data.toList) (hn : n ≤ 100000000) => papp nm hf1 A n c bb.data.toList v h hr hn (by omega) (fun x hx => Nat.le_trans (hbo.sm x hx).1 (by omega))
      have HR := fun (v : World) (h : IsRf v gr l lost (rl armed left)) => rapp (armed := armed) nm bb.data.toList v h hbo.dk.left0 (by omega) (by have := get_bd hbo.sm nm; have e : bb.data.toList.length = bb.size := Array.length_toList; omega)
      rw [show (⟨bb.data.toList.toArray⟩ : ByteArray) = bb by rw [Array.toArray_toList]] at HR
      have hob := ob_ap (lost := lost) (armed := armed) (left := left) hbo.dk.mp.asc hbo.sm nm hf1 (y := bb.data.toList) (by have e : bb.data.toList.length = bb.size := Array.length_toList; omega)
      generalize apO nm bb.data.toList l lost armed left = o at *
      go_upto_region 6 with fail
      have k0 : ∀ w' : World, At w' g5 40 [.int .i64 1, .string nm, .string to, .string bb, .int .i64 n, .slice KA kn kc] → _ := fun w' h => (at6 h).1
      refine region_begin (fun w' : World => At w' g5 40 [.int .i64 1, .string nm, .string to, .string bb, .int .i64 n, .slice KA kn kc]) (by kernel_rfl) (h5.drew) (fun hHeld => ?_)
      replace hbo := hbo.drew
      replace hm := hm.drew
      clear h5 x0 x1 x2 x3 x4 x5 xf
      generalize World.drew _ = w6 at *
      obtain ⟨cap, w7, hcv, hcr, hcb⟩ := conv_bytes6 bb w6 (by omega)
      have hne : gd ≠ w6.heap.size := by have := hbo.dk.lt; omega
      refine wpAnyH_take (i := 0) (v := ?_) rfl (by kernel_rfl) (by kernel_rfl) (by kernel_rfl) (fun _ _ _ h => h) (Or.inl ⟨by kernel_rfl, ?_⟩) (by assumption) ?_
      rotate_left
      · (intro wS hwS; (try dsimp only at hwS); go_simp; try (first | (with_reducible rfl) | rw [if_pos (by omega)] | rw [if_neg (by omega)]))
      try simp only [Act.put, List.getElem_toArray, List.getElem_cons_succ, List.getElem_cons_zero, List.setIfInBounds_toArray, List.set_cons_zero, List.set_cons_succ]
      refine wpAnyH_take (i := 1) (v := ?_) rfl (by kernel_rfl) (by kernel_rfl) (by kernel_rfl) (fun _ _ _ h => h) (Or.inl ⟨by kernel_rfl, ?_⟩) (by assumption) ?_
      rotate_left
      · (intro wS hwS; (try dsimp only at hwS); go_simp; try (first | (with_reducible rfl) | rw [if_pos (by omega)] | rw [if_neg (by omega)]))
      try simp only [Act.put, List.getElem_toArray, List.getElem_cons_succ, List.getElem_cons_zero, List.setIfInBounds_toArray, List.set_cons_zero, List.set_cons_succ]
      refine wpAnyH_take (i := 2) (v := ?_) rfl (by kernel_rfl) (by kernel_rfl) (by kernel_rfl) (fun _ _ _ h => h) (Or.inl ⟨by kernel_rfl, ?_⟩) (by assumption) ?_
      rotate_left
      · (intro wS hwS; (try dsimp only at hwS); go_simp; try (first | (with_reducible rfl) | rw [if_pos (by omega)] | rw [if_neg (by omega)]))
      try simp only [Act.put, List.getElem_toArray, List.getElem_cons_succ, List.getElem_cons_zero, List.setIfInBounds_toArray, List.set_cons_zero, List.set_cons_succ]
      refine wpAnyH_take (i := 3) (v := ?_) rfl (by kernel_rfl) (by kernel_rfl) (by kernel_rfl) (fun _ _ _ h => h) (Or.inl ⟨by kernel_rfl, ?_⟩) (by assumption) ?_
      rotate_left
      · (intro wS hwS; (try dsimp only at hwS); go_simp; try (first | (with_reducible rfl) | rw [if_pos (by omega)] | rw [if_neg (by omega)]))
      try simp only [Act.put, List.getElem_toArray, List.getElem_cons_succ, List.getElem_cons_zero, List.setIfInBounds_toArray, List.set_cons_zero, List.set_cons_succ]
      refine wpAnyH_take (i := 4) (v := ?_) rfl (by kernel_rfl) (by kernel_rfl) (by kernel_rfl) (fun _ _ _ h => h) (Or.inl ⟨by kernel_rfl, ?_⟩) (by assumption) ?_
      rotate_left
      · (intro wS hwS; (try dsimp only at hwS); go_simp; try (first | (with_reducible rfl) | rw [if_pos (by omega)] | rw [if_neg (by omega)]))
      try simp only [Act.put, List.getElem_toArray, List.getElem_cons_succ, List.getElem_cons_zero, List.setIfInBounds_toArray, List.set_cons_zero, List.set_cons_succ]
      refine wpAnyH_take (i := 7) (v := ?_) rfl (by kernel_rfl) (by kernel_rfl) (by kernel_rfl) (fun _ _ _ h => h) (Or.inl ⟨by kernel_rfl, ?_⟩) (by assumption) ?_
      rotate_left
      · (intro wS hwS; (try dsimp only at hwS); go_simp; try (first | (with_reducible rfl) | rw [if_pos (by omega)] | rw [if_neg (by omega)]))
      try simp only [Act.put, List.getElem_toArray, List.getElem_cons_succ, List.getElem_cons_zero, List.setIfInBounds_toArray, List.set_cons_zero, List.set_cons_succ]
      refine wpAnyH_take (i := 8) (v := ?_) rfl (by kernel_rfl) (by kernel_rfl) (by kernel_rfl) (fun _ _ _ h => h) (Or.inl ⟨by kernel_rfl, ?_⟩) (by assumption) ?_
      rotate_left
      · (intro wS hwS; (try dsimp only at hwS); go_simp; try (first | (with_reducible rfl) | rw [if_pos (by omega)] | rw [if_neg (by omega)]))
      try simp only [Act.put, List.getElem_toArray, List.getElem_cons_succ, List.getElem_cons_zero, List.setIfInBounds_toArray, List.set_cons_zero, List.set_cons_succ]
      refine wpAnyH_take (i := 9) (v := ?_) rfl (by kernel_rfl) (by kernel_rfl) (by kernel_rfl) (fun _ _ _ h => h) (Or.inl ⟨by kernel_rfl, ?_⟩) (by assumption) ?_
      rotate_left
      · (intro wS hwS; (try dsimp only at hwS); go_simp; try (first | (with_reducible rfl) | rw [if_pos (by omega)] | rw [if_neg (by omega)]))
      try simp only [Act.put, List.getElem_toArray, List.getElem_cons_succ, List.getElem_cons_zero, List.setIfInBounds_toArray, List.set_cons_zero, List.set_cons_succ]
      refine wpAnyH_take (i := 10) (v := ?_) rfl (by kernel_rfl) (by kernel_rfl) (by kernel_rfl) (fun _ _ _ h => h) (Or.inl ⟨by kernel_rfl, ?_⟩) (by assumption) ?_
      rotate_left
      · (intro wS hwS; (try dsimp only at hwS); go_simp; try (first | (with_reducible rfl) | rw [if_pos (by omega)] | rw [if_neg (by omega)]))
      try simp only [Act.put, List.getElem_toArray, List.getElem_cons_succ, List.getElem_cons_zero, List.setIfInBounds_toArray, List.set_cons_zero, List.set_cons_succ]
      refine wpAnyH_take (i := 11) (v := ?_) rfl (by kernel_rfl) (by kernel_rfl) (by kernel_rfl) (fun _ _ _ h => h) (Or.inl ⟨by kernel_rfl, ?_⟩) (by assumption) ?_
      rotate_left
      · (intro wS hwS; (try dsimp only at hwS); go_simp; try (first | (with_reducible rfl) | rw [if_pos (by omega)] | rw [if_neg (by omega)]))
      try simp only [Act.put, List.getElem_toArray, List.getElem_cons_succ, List.getElem_cons_zero, List.setIfInBounds_toArray, List.set_cons_zero, List.set_cons_succ]
      refine region_one 5 (by kernel_rfl) rfl (fun K hK => ?_)
      go_simp
      have h20 : At _ g5 40 [.int .i64 1, .string nm, .string to, .string bb, .int .i64 n, .slice KA kn kc] := hHeld.step hcb
      replace hbo := hbo.step hcb
      replace hm := hm.below hcb
      clear hHeld
      refine hK.out _ _ (fun w' : World => At w' g5 40 [.int .i64 1, .string nm, .string to, .string bb, .int .i64 n, .slice KA kn kc]) (h20) (fun _ h => h) (fun hHeld => ?_)
      clear hK K
      try simp only [Act.put, List.getElem_toArray, List.getElem_cons_succ, List.getElem_cons_zero, List.setIfInBounds_toArray, List.set_cons_zero, List.set_cons_succ]
      clear h20 hcv
      refine region_one 6 (by kernel_rfl) rfl (fun K hK => ?_)
      go_simp
      refine (HP _ _ _ _ hbo.dk (fun u hG => hcr.keepM (grown_mod hG) (fun o e => hne (Option.some.inj e)) (Nat.le_refl _)) (by omega)).mono ?_
      rintro z w8 ⟨rfl, hm7, l7, hl7, hd7⟩
      have hrf7 := hbo.rf.keep hbo.dk hm7
      have h20 : At _ g5 40 [.int .i64 1, .string nm, .string to, .string bb, .int .i64 n, .slice KA kn kc] := hm7.at hHeld (hbo.dk.freeAt hHeld (by decide))
      clear hHeld hcr hcb
      refine hK.out _ _ (fun w' : World => At w' g5 40 [.int .i64 1, .string nm, .string to, .string bb, .int .i64 n, .slice KA kn kc]) (h20) (fun _ h => h) (fun hHeld => ?_)
      clear hK K
      try simp only [Act.put, List.getElem_toArray, List.getElem_cons_succ, List.getElem_cons_zero, List.setIfInBounds_toArray, List.set_cons_zero, List.set_cons_succ]
      clear h20
      refine region_one 12 (by kernel_rfl) rfl (fun K hK => ?_)
      go_simp
      refine (HR _ hrf7).mono ?_
      rintro z w9 ⟨rfl, hm8, hr8⟩
      have h20 : At _ g5 40 [.int .i64 1, .string nm, .string to, .string bb, .int .i64 n, .slice KA kn kc] := hm8.at hHeld (hrf7.freeAt hHeld (by decide))
      clear hHeld
      refine hK.out _ _ (fun w' : World => At w' g5 40 [.int .i64 1, .string nm, .string to, .string bb, .int .i64 n, .slice KA kn kc]) (h20) (fun _ h => h) (fun hHeld => ?_)
      clear hK K
      try simp only [Act.put, List.getElem_toArray, List.getElem_cons_succ, List.getElem_cons_zero, List.setIfInBounds_toArray, List.set_cons_zero, List.set_cons_succ]
      clear h20
      refine wpAnyH_take (i := 13) (v := ?_) rfl (by kernel_rfl) (by kernel_rfl) (by kernel_rfl) (fun _ _ _ h => h) (Or.inl ⟨by kernel_rfl, ?_⟩) (by assumption) ?_
      rotate_left
      · (intro wS hwS; (try dsimp only at hwS); go_simp; try (first | (with_reducible rfl) | rw [if_pos (by omega)] | rw [if_neg (by omega)]))
      try simp only [Act.put, List.getElem_toArray, List.getElem_cons_succ, List.getElem_cons_zero, List.setIfInBounds_toArray, List.set_cons_zero, List.set_cons_succ]
      refine wpAnyH_take (i := 14) (v := ?_) rfl (by kernel_rfl) (by kernel_rfl) (by kernel_rfl) (fun _ _ _ h => h) (Or.inl ⟨by kernel_rfl, ?_⟩) (by assumption) ?_
      rotate_left
      · (intro wS hwS; (try dsimp only at hwS); go_simp; try (first | (with_reducible rfl) | rw [if_pos (by omega)] | rw [if_neg (by omega)]))
      try simp only [Act.put, List.getElem_toArray, List.getElem_cons_succ, List.getElem_cons_zero, List.setIfInBounds_toArray, List.set_cons_zero, List.set_cons_succ]
      refine wpAnyH_done (by kernel_rfl) ?_ _
      have HE := both_two hob hrf7 hm7 hl7 hd7 hm8 hr8
      clear hrf7 hm7 hl7 hd7 hm8 hr8 hHeld k0 hbo
      obtain ⟨-, hm9, hE⟩ := HE
      have HE2 := Lib.hid hE
      have HM := Lib.hid (hm.trans hm9)
      clear hE hm hm9
      go_wp2_with fail
      go_ret
      exact ⟨rfl, HM.out, HE2.out⟩
    replace e1 : (ki == 1) = false := by simpa using e1
    by_cases e2 : ki = 2
    · subst e2
      have HP := fun (v : World) (h : IsDk v gd bd N l lost armed left) => psync nm hf1 v h (by omega)
      have HR := fun (v : World) (h : IsRf v gr l lost (rl armed left)) => rsync (armed := armed) nm v h hbo.dk.left0 (by omega)
      have hob := ob_sy (lost := lost) (armed := armed) (left := left) hbo.dk.mp.asc hbo.sm nm hf1
      generalize syO nm l lost armed left = o at *
      go_upto_region 8 with fail
      have k0 : ∀ w' : World, At w' g5 40 [.int .i64 2, .string nm, .string to, .string bb, .int .i64 n, .slice KA kn kc] → _ := fun w' h => (at6 h).1
      refine region_begin (fun w' : World => At w' g5 40 [.int .i64 2, .string nm, .string to, .string bb, .int .i64 n, .slice KA kn kc]) (by kernel_rfl) (h5.drew) (fun hHeld => ?_)
      replace hbo := hbo.drew
      replace hm := hm.drew
      clear h5 x0 x1 x2 x3 x4 x5 xf
      generalize World.drew _ = w6 at *
      skip
      refine wpAnyH_take (i := 0) (v := ?_) rfl (by kernel_rfl) (by kernel_rfl) (by kernel_rfl) (fun _ _ _ h => h) (Or.inl ⟨by kernel_rfl, ?_⟩) (by assumption) ?_
      rotate_left
      · (intro wS hwS; (try dsimp only at hwS); go_simp; try (first | (with_reducible rfl) | rw [if_pos (by omega)] | rw [if_neg (by omega)]))
      try simp only [Act.put, List.getElem_toArray, List.getElem_cons_succ, List.getElem_cons_zero, List.setIfInBounds_toArray, List.set_cons_zero, List.set_cons_succ]
      refine wpAnyH_take (i := 1) (v := ?_) rfl (by kernel_rfl) (by kernel_rfl) (by kernel_rfl) (fun _ _ _ h => h) (Or.inl ⟨by kernel_rfl, ?_⟩) (by assumption) ?_
      rotate_left
      · (intro wS hwS; (try dsimp only at hwS); go_simp; try (first | (with_reducible rfl) | rw [if_pos (by omega)] | rw [if_neg (by omega)]))
      try simp only [Act.put, List.getElem_toArray, List.getElem_cons_succ, List.getElem_cons_zero, List.setIfInBounds_toArray, List.set_cons_zero, List.set_cons_succ]
      refine wpAnyH_take (i := 2) (v := ?_) rfl (by kernel_rfl) (by kernel_rfl) (by kernel_rfl) (fun _ _ _ h => h) (Or.inl ⟨by kernel_rfl, ?_⟩) (by assumption) ?_
      rotate_left
      · (intro wS hwS; (try dsimp only at hwS); go_simp; try (first | (with_reducible rfl) | rw [if_pos (by omega)] | rw [if_neg (by omega)]))
      try simp only [Act.put, List.getElem_toArray, List.getElem_cons_succ, List.getElem_cons_zero, List.setIfInBounds_toArray, List.set_cons_zero, List.set_cons_succ]
      refine wpAnyH_take (i := 4) (v := ?_) rfl (by kernel_rfl) (by kernel_rfl) (by kernel_rfl) (fun _ _ _ h => h) (Or.inl ⟨by kernel_rfl, ?_⟩) (by assumption) ?_
      rotate_left
      · (intro wS hwS; (try dsimp only at hwS); go_simp; try (first | (with_reducible rfl) | rw [if_pos (by omega)] | rw [if_neg (by omega)]))
      try simp only [Act.put, List.getElem_toArray, List.getElem_cons_succ, List.getElem_cons_zero, List.setIfInBounds_toArray, List.set_cons_zero, List.set_cons_succ]
      refine wpAnyH_take (i := 5) (v := ?_) rfl (by kernel_rfl) (by kernel_rfl) (by kernel_rfl) (fun _ _ _ h => h) (Or.inl ⟨by kernel_rfl, ?_⟩) (by assumption) ?_
      rotate_left
      · (intro wS hwS; (try dsimp only at hwS); go_simp; try (first | (with_reducible rfl) | rw [if_pos (by omega)] | rw [if_neg (by omega)]))
      try simp only [Act.put, List.getElem_toArray, List.getElem_cons_succ, List.getElem_cons_zero, List.setIfInBounds_toArray, List.set_cons_zero, List.set_cons_succ]
      refine wpAnyH_take (i := 6) (v := ?_) rfl (by kernel_rfl) (by kernel_rfl) (by kernel_rfl) (fun _ _ _ h => h) (Or.inl ⟨by kernel_rfl, ?_⟩) (by assumption) ?_
      rotate_left
      · (intro wS hwS; (try dsimp only at hwS); go_simp; try (first | (with_reducible rfl) | rw [if_pos (by omega)] | rw [if_neg (by omega)]))
      try simp only [Act.put, List.getElem_toArray, List.getElem_cons_succ, List.getElem_cons_zero, List.setIfInBounds_toArray, List.set_cons_zero, List.set_cons_succ]
      refine region_one 3 (by kernel_rfl) rfl (fun K hK => ?_)
      go_simp
      refine (HP _ hbo.dk ).mono ?_
      rintro z w7 ⟨rfl, hm7, l7, hl7, hd7⟩
      have hrf7 := hbo.rf.keep hbo.dk hm7
      have h20 : At _ g5 40 [.int .i64 2, .string nm, .string to, .string bb, .int .i64 n, .slice KA kn kc] := hm7.at hHeld (hbo.dk.freeAt hHeld (by decide))
      clear hHeld
      refine hK.out _ _ (fun w' : World => At w' g5 40 [.int .i64 2, .string nm, .string to, .string bb, .int .i64 n, .slice KA kn kc]) (h20) (fun _ h => h) (fun hHeld => ?_)
      clear hK K
      try simp only [Act.put, List.getElem_toArray, List.getElem_cons_succ, List.getElem_cons_zero, List.setIfInBounds_toArray, List.set_cons_zero, List.set_cons_succ]
      clear h20
      refine region_one 7 (by kernel_rfl) rfl (fun K hK => ?_)
      go_simp
      refine (HR _ hrf7).mono ?_
      rintro z w8 ⟨rfl, hm8, hr8⟩
      have h20 : At _ g5 40 [.int .i64 2, .string nm, .string to, .string bb, .int .i64 n, .slice KA kn kc] := hm8.at hHeld (hrf7.freeAt hHeld (by decide))
      clear hHeld
      refine hK.out _ _ (fun w' : World => At w' g5 40 [.int .i64 2, .string nm, .string to, .string bb, .int .i64 n, .slice KA kn kc]) (h20) (fun _ h => h) (fun hHeld => ?_)
      clear hK K
      try simp only [Act.put, List.getElem_toArray, List.getElem_cons_succ, List.getElem_cons_zero, List.setIfInBounds_toArray, List.set_cons_zero, List.set_cons_succ]
      clear h20
      refine wpAnyH_take (i := 8) (v := ?_) rfl (by kernel_rfl) (by kernel_rfl) (by kernel_rfl) (fun _ _ _ h => h) (Or.inl ⟨by kernel_rfl, ?_⟩) (by assumption) ?_
      rotate_left
      · (intro wS hwS; (try dsimp only at hwS); go_simp; try (first | (with_reducible rfl) | rw [if_pos (by omega)] | rw [if_neg (by omega)]))
      try simp only [Act.put, List.getElem_toArray, List.getElem_cons_succ, List.getElem_cons_zero, List.setIfInBounds_toArray, List.set_cons_zero, List.set_cons_succ]
      refine wpAnyH_take (i := 9) (v := ?_) rfl (by kernel_rfl) (by kernel_rfl) (by kernel_rfl) (fun _ _ _ h => h) (Or.inl ⟨by kernel_rfl, ?_⟩) (by assumption) ?_
      rotate_left
      · (intro wS hwS; (try dsimp only at hwS); go_simp; try (first | (with_reducible rfl) | rw [if_pos (by omega)] | rw [if_neg (by omega)]))
      try simp only [Act.put, List.getElem_toArray, List.getElem_cons_succ, List.getElem_cons_zero, List.setIfInBounds_toArray, List.set_cons_zero, List.set_cons_succ]
      refine wpAnyH_done (by kernel_rfl) ?_ _
      have HE := both_two hob hrf7 hm7 hl7 hd7 hm8 hr8
      clear hrf7 hm7 hl7 hd7 hm8 hr8 hHeld k0 hbo
      obtain ⟨-, hm9, hE⟩ := HE
      have HE2 := Lib.hid hE
      have HM := Lib.hid (hm.trans hm9)
      clear hE hm hm9
      go_wp2_with fail
      go_ret
      exact ⟨rfl, HM.out, HE2.out⟩
    replace e2 : (ki == 2) = false := by simpa using e2
    by_cases e3 : ki = 3
    · subst e3
      have HP := fun (v : World) (h : IsDk v gd bd N l lost armed left) => prename nm to hf1 hf2 v h (by omega)
      have HR := fun (v : World) (h : IsRf v gr l lost (rl armed left)) => rrename (armed := armed) nm to v h hbo.dk.left0 (by omega)
      have hob := ob_re (lost := lost) (armed := armed) (left := left) hbo.dk.mp.asc hbo.sm nm to hf2
      generalize reO nm to l lost armed left = o at *
      go_upto_region 10 with fail
      have k0 : ∀ w' : World, At w' g5 40 [.int .i64 3, .string nm, .string to, .string bb, .int .i64 n, .slice KA kn kc] → _ := fun w' h => (at6 h).1
      refine region_begin (fun w' : World => At w' g5 40 [.int .i64 3, .string nm, .string to, .string bb, .int .i64 n, .slice KA kn kc]) (by kernel_rfl) (h5.drew) (fun hHeld => ?_)
      replace hbo := hbo.drew
      replace hm := hm.drew
      clear h5 x0 x1 x2 x3 x4 x5 xf
      generalize World.drew _ = w6 at *
      skip
      refine wpAnyH_take (i := 0) (v := ?_) rfl (by kernel_rfl) (by kernel_rfl) (by kernel_rfl) (fun _ _ _ h => h) (Or.inl ⟨by kernel_rfl, ?_⟩) (by assumption) ?_
      rotate_left
      · (intro wS hwS; (try dsimp only at hwS); go_simp; try (first | (with_reducible rfl) | rw [if_pos (by omega)] | rw [if_neg (by omega)]))
      try simp only [Act.put, List.getElem_toArray, List.getElem_cons_succ, List.getElem_cons_zero, List.setIfInBounds_toArray, List.set_cons_zero, List.set_cons_succ]
      refine wpAnyH_take (i := 1) (v := ?_) rfl (by kernel_rfl) (by kernel_rfl) (by kernel_rfl) (fun _ _ _ h => h) (Or.inl ⟨by kernel_rfl, ?_⟩) (by assumption) ?_
      rotate_left
      · (intro wS hwS; (try dsimp only at hwS); go_simp; try (first | (with_reducible rfl) | rw [if_pos (by omega)] | rw [if_neg (by omega)]))
      try simp only [Act.put, List.getElem_toArray, List.getElem_cons_succ, List.getElem_cons_zero, List.setIfInBounds_toArray, List.set_cons_zero, List.set_cons_succ]
      refine wpAnyH_take (i := 2) (v := ?_) rfl (by kernel_rfl) (by kernel_rfl) (by kernel_rfl) (fun _ _ _ h => h) (Or.inl ⟨by kernel_rfl, ?_⟩) (by assumption) ?_
      rotate_left
      · (intro wS hwS; (try dsimp only at hwS); go_simp; try (first | (with_reducible rfl) | rw [if_pos (by omega)] | rw [if_neg (by omega)]))
      try simp only [Act.put, List.getElem_toArray, List.getElem_cons_succ, List.getElem_cons_zero, List.setIfInBounds_toArray, List.set_cons_zero, List.set_cons_succ]
      refine wpAnyH_take (i := 3) (v := ?_) rfl (by kernel_rfl) (by kernel_rfl) (by kernel_rfl) (fun _ _ _ h => h) (Or.inl ⟨by kernel_rfl, ?_⟩) (by assumption) ?_
      rotate_left
      · (intro wS hwS; (try dsimp only at hwS); go_simp; try (first | (with_reducible rfl) | rw [if_pos (by omega)] | rw [if_neg (by omega)]))
      try simp only [Act.put, List.getElem_toArray, List.getElem_cons_succ, List.getElem_cons_zero, List.setIfInBounds_toArray, List.set_cons_zero, List.set_cons_succ]
      refine wpAnyH_take (i := 4) (v := ?_) rfl (by kernel_rfl) (by kernel_rfl) (by kernel_rfl) (fun _ _ _ h => h) (Or.inl ⟨by kernel_rfl, ?_⟩) (by assumption) ?_
      rotate_left
      · (intro wS hwS; (try dsimp only at hwS); go_simp; try (first | (with_reducible rfl) | rw [if_pos (by omega)] | rw [if_neg (by omega)]))
      try simp only [Act.put, List.getElem_toArray, List.getElem_cons_succ, List.getElem_cons_zero, List.setIfInBounds_toArray, List.set_cons_zero, List.set_cons_succ]
      refine wpAnyH_take (i := 6) (v := ?_) rfl (by kernel_rfl) (by kernel_rfl) (by kernel_rfl) (fun _ _ _ h => h) (Or.inl ⟨by kernel_rfl, ?_⟩) (by assumption) ?_
      rotate_left
      · (intro wS hwS; (try dsimp only at hwS); go_simp; try (first | (with_reducible rfl) | rw [if_pos (by omega)] | rw [if_neg (by omega)]))
      try simp only [Act.put, List.getElem_toArray, List.getElem_cons_succ, List.getElem_cons_zero, List.setIfInBounds_toArray, List.set_cons_zero, List.set_cons_succ]
      refine wpAnyH_take (i := 7) (v := ?_) rfl (by kernel_rfl) (by kernel_rfl) (by kernel_rfl) (fun _ _ _ h => h) (Or.inl ⟨by kernel_rfl, ?_⟩) (by assumption) ?_
      rotate_left
      · (intro wS hwS; (try dsimp only at hwS); go_simp; try (first | (with_reducible rfl) | rw [if_pos (by omega)] | rw [if_neg (by omega)]))
      try simp only [Act.put, List.getElem_toArray, List.getElem_cons_succ, List.getElem_cons_zero, List.setIfInBounds_toArray, List.set_cons_zero, List.set_cons_succ]
      refine wpAnyH_take (i := 8) (v := ?_) rfl (by kernel_rfl) (by kernel_rfl) (by kernel_rfl) (fun _ _ _ h => h) (Or.inl ⟨by kernel_rfl, ?_⟩) (by assumption) ?_
      rotate_left
      · (intro wS hwS; (try dsimp only at hwS); go_simp; try (first | (with_reducible rfl) | rw [if_pos (by omega)] | rw [if_neg (by omega)]))
      try simp only [Act.put, List.getElem_toArray, List.getElem_cons_succ, List.getElem_cons_zero, List.setIfInBounds_toArray, List.set_cons_zero, List.set_cons_succ]
      refine wpAnyH_take (i := 9) (v := ?_) rfl (by kernel_rfl) (by kernel_rfl) (by kernel_rfl) (fun _ _ _ h => h) (Or.inl ⟨by kernel_rfl, ?_⟩) (by assumption) ?_
      rotate_left
      · (intro wS hwS; (try dsimp only at hwS); go_simp; try (first | (with_reducible rfl) | rw [if_pos (by omega)] | rw [if_neg (by omega)]))
      try simp only [Act.put, List.getElem_toArray, List.getElem_cons_succ, List.getElem_cons_zero, List.setIfInBounds_toArray, List.set_cons_zero, List.set_cons_succ]
      refine wpAnyH_take (i := 10) (v := ?_) rfl (by kernel_rfl) (by kernel_rfl) (by kernel_rfl) (fun _ _ _ h => h) (Or.inl ⟨by kernel_rfl, ?_⟩) (by assumption) ?_
      rotate_left
      · (intro wS hwS; (try dsimp only at hwS); go_simp; try (first | (with_reducible rfl) | rw [if_pos (by omega)] | rw [if_neg (by omega)]))
      try simp only [Act.put, List.getElem_toArray, List.getElem_cons_succ, List.getElem_cons_zero, List.setIfInBounds_toArray, List.set_cons_zero, List.set_cons_succ]
      refine region_one 5 (by kernel_rfl) rfl (fun K hK => ?_)
      go_simp
      refine (HP _ hbo.dk ).mono ?_
      rintro z w7 ⟨rfl, hm7, l7, hl7, hd7⟩
      have hrf7 := hbo.rf.keep hbo.dk hm7
      have h20 : At _ g5 40 [.int .i64 3, .string nm, .string to, .string bb, .int .i64 n, .slice KA kn kc] := hm7.at hHeld (hbo.dk.freeAt hHeld (by decide))
      clear hHeld
      refine hK.out _ _ (fun w' : World => At w' g5 40 [.int .i64 3, .string nm, .string to, .string bb, .int .i64 n, .slice KA kn kc]) (h20) (fun _ h => h) (fun hHeld => ?_)
      clear hK K
      try simp only [Act.put, List.getElem_toArray, List.getElem_cons_succ, List.getElem_cons_zero, List.setIfInBounds_toArray, List.set_cons_zero, List.set_cons_succ]
      clear h20
      refine region_one 11 (by kernel_rfl) rfl (fun K hK => ?_)
      go_simp
      refine (HR _ hrf7).mono ?_
      rintro z w8 ⟨rfl, hm8, hr8⟩
      have h20 : At _ g5 40 [.int .i64 3, .string nm, .string to, .string bb, .int .i64 n, .slice KA kn kc] := hm8.at hHeld (hrf7.freeAt hHeld (by decide))
      clear hHeld
      refine hK.out _ _ (fun w' : World => At w' g5 40 [.int .i64 3, .string nm, .string to, .string bb, .int .i64 n, .slice KA kn kc]) (h20) (fun _ h => h) (fun hHeld => ?_)
      clear hK K
      try simp only [Act.put, List.getElem_toArray, List.getElem_cons_succ, List.getElem_cons_zero, List.setIfInBounds_toArray, List.set_cons_zero, List.set_cons_succ]
      clear h20
      refine wpAnyH_take (i := 12) (v := ?_) rfl (by kernel_rfl) (by kernel_rfl) (by kernel_rfl) (fun _ _ _ h => h) (Or.inl ⟨by kernel_rfl, ?_⟩) (by assumption) ?_
      rotate_left
      · (intro wS hwS; (try dsimp only at hwS); go_simp; try (first | (with_reducible rfl) | rw [if_pos (by omega)] | rw [if_neg (by omega)]))
      try simp only [Act.put, List.getElem_toArray, List.getElem_cons_succ, List.getElem_cons_zero, List.setIfInBounds_toArray, List.set_cons_zero, List.set_cons_succ]
      refine wpAnyH_take (i := 13) (v := ?_) rfl (by kernel_rfl) (by kernel_rfl) (by kernel_rfl) (fun _ _ _ h => h) (Or.inl ⟨by kernel_rfl, ?_⟩) (by assumption) ?_
      rotate_left
      · (intro wS hwS; (try dsimp only at hwS); go_simp; try (first | (with_reducible rfl) | rw [if_pos (by omega)] | rw [if_neg (by omega)]))
      try simp only [Act.put, List.getElem_toArray, List.getElem_cons_succ, List.getElem_cons_zero, List.setIfInBounds_toArray, List.set_cons_zero, List.set_cons_succ]
      refine wpAnyH_done (by kernel_rfl) ?_ _
      have HE := both_two hob hrf7 hm7 hl7 hd7 hm8 hr8
      clear hrf7 hm7 hl7 hd7 hm8 hr8 hHeld k0 hbo
      obtain ⟨-, hm9, hE⟩ := HE
      have HE2 := Lib.hid hE
      have HM := Lib.hid (hm.trans hm9)
      clear hE hm hm9
      go_wp2_with fail
      go_ret
      exact ⟨rfl, HM.out, HE2.out⟩
    replace e3 : (ki == 3) = false := by simpa using e3
    by_cases e4 : ki = 4
    · subst e4
      have HP := fun (v : World) (h : IsDk v gd bd N l lost armed left) => premove nm hf1 v h
      have HR := fun (v : World) (h : IsRf v gr l lost (rl armed left)) => rremove (armed := armed) nm v h hbo.dk.left0 (by omega)
      have hob := ob_rm (lost := lost) (armed := armed) (left := left) hbo.dk.mp.asc hbo.sm nm
      generalize rmO nm l lost armed left = o at *
      go_upto_region 12 with fail
      have k0 : ∀ w' : World, At w' g5 40 [.int .i64 4, .string nm, .string to, .string bb, .int .i64 n, .slice KA kn kc] → _ := fun w' h => (at6 h).1
      refine region_begin (fun w' : World => At w' g5 40 [.int .i64 4, .string nm, .string to, .string bb, .int .i64 n, .slice KA kn kc]) (by kernel_rfl) (h5.drew) (fun hHeld => ?_)
      replace hbo := hbo.drew
      replace hm := hm.drew
      clear h5 x0 x1 x2 x3 x4 x5 xf
      generalize World.drew _ = w6 at *
      skip
      refine wpAnyH_take (i := 0) (v := ?_) rfl (by kernel_rfl) (by kernel_rfl) (by kernel_rfl) (fun _ _ _ h => h) (Or.inl ⟨by kernel_rfl, ?_⟩) (by assumption) ?_
      rotate_left
      · (intro wS hwS; (try dsimp only at hwS); go_simp; try (first | (with_reducible rfl) | rw [if_pos (by omega)] | rw [if_neg (by omega)]))
      try simp only [Act.put, List.getElem_toArray, List.getElem_cons_succ, List.getElem_cons_zero, List.setIfInBounds_toArray, List.set_cons_zero, List.set_cons_succ]
      refine wpAnyH_take (i := 1) (v := ?_) rfl (by kernel_rfl) (by kernel_rfl) (by kernel_rfl) (fun _ _ _ h => h) (Or.inl ⟨by kernel_rfl, ?_⟩) (by assumption) ?_
      rotate_left
      · (intro wS hwS; (try dsimp only at hwS); go_simp; try (first | (with_reducible rfl) | rw [if_pos (by omega)] | rw [if_neg (by omega)]))
      try simp only [Act.put, List.getElem_toArray, List.getElem_cons_succ, List.getElem_cons_zero, List.setIfInBounds_toArray, List.set_cons_zero, List.set_cons_succ]
      refine wpAnyH_take (i := 2) (v := ?_) rfl (by kernel_rfl) (by kernel_rfl) (by kernel_rfl) (fun _ _ _ h => h) (Or.inl ⟨by kernel_rfl, ?_⟩) (by assumption) ?_
      rotate_left
      · (intro wS hwS; (try dsimp only at hwS); go_simp; try (first | (with_reducible rfl) | rw [if_pos (by omega)] | rw [if_neg (by omega)]))
      try simp only [Act.put, List.getElem_toArray, List.getElem_cons_succ, List.getElem_cons_zero, List.setIfInBounds_toArray, List.set_cons_zero, List.set_cons_succ]
      refine wpAnyH_take (i := 4) (v := ?_) rfl (by kernel_rfl) (by kernel_rfl) (by kernel_rfl) (fun _ _ _ h => h) (Or.inl ⟨by kernel_rfl, ?_⟩) (by assumption) ?_
      rotate_left
      · (intro wS hwS; (try dsimp only at hwS); go_simp; try (first | (with_reducible rfl) | rw [if_pos (by omega)] | rw [if_neg (by omega)]))
      try simp only [Act.put, List.getElem_toArray, List.getElem_cons_succ, List.getElem_cons_zero, List.setIfInBounds_toArray, List.set_cons_zero, List.set_cons_succ]
      refine wpAnyH_take (i := 5) (v := ?_) rfl (by kernel_rfl) (by kernel_rfl) (by kernel_rfl) (fun _ _ _ h => h) (Or.inl ⟨by kernel_rfl, ?_⟩) (by assumption) ?_
      rotate_left
      · (intro wS hwS; (try dsimp only at hwS); go_simp; try (first | (with_reducible rfl) | rw [if_pos (by omega)] | rw [if_neg (by omega)]))
      try simp only [Act.put, List.getElem_toArray, List.getElem_cons_succ, List.getElem_cons_zero, List.setIfInBounds_toArray, List.set_cons_zero, List.set_cons_succ]
      refine wpAnyH_take (i := 6) (v := ?_) rfl (by kernel_rfl) (by kernel_rfl) (by kernel_rfl) (fun _ _ _ h => h) (Or.inl ⟨by kernel_rfl, ?_⟩) (by assumption) ?_
      rotate_left
      · (intro wS hwS; (try dsimp only at hwS); go_simp; try (first | (with_reducible rfl) | rw [if_pos (by omega)] | rw [if_neg (by omega)]))
      try simp only [Act.put, List.getElem_toArray, List.getElem_cons_succ, List.getElem_cons_zero, List.setIfInBounds_toArray, List.set_cons_zero, List.set_cons_succ]
      refine region_one 3 (by kernel_rfl) rfl (fun K hK => ?_)
      go_simp
      refine (HP _ hbo.dk ).mono ?_
      rintro z w7 ⟨rfl, hm7, l7, hl7, hd7⟩
      have hrf7 := hbo.rf.keep hbo.dk hm7
      have h20 : At _ g5 40 [.int .i64 4, .string nm, .string to, .string bb, .int .i64 n, .slice KA kn kc] := hm7.at hHeld (hbo.dk.freeAt hHeld (by decide))
      clear hHeld
      refine hK.out _ _ (fun w' : World => At w' g5 40 [.int .i64 4, .string nm, .string to, .string bb, .int .i64 n, .slice KA kn kc]) (h20) (fun _ h => h) (fun hHeld => ?_)
      clear hK K
      try simp only [Act.put, List.getElem_toArray, List.getElem_cons_succ, List.getElem_cons_zero, List.setIfInBounds_toArray, List.set_cons_zero, List.set_cons_succ]
      clear h20
      refine region_one 7 (by kernel_rfl) rfl (fun K hK => ?_)
      go_simp
      refine (HR _ hrf7).mono ?_
      rintro z w8 ⟨rfl, hm8, hr8⟩
      have h20 : At _ g5 40 [.int .i64 4, .string nm, .string to, .string bb, .int .i64 n, .slice KA kn kc] := hm8.at hHeld (hrf7.freeAt hHeld (by decide))
      clear hHeld
      refine hK.out _ _ (fun w' : World => At w' g5 40 [.int .i64 4, .string nm, .string to, .string bb, .int .i64 n, .slice KA kn kc]) (h20) (fun _ h => h) (fun hHeld => ?_)
      clear hK K
      try simp only [Act.put, List.getElem_toArray, List.getElem_cons_succ, List.getElem_cons_zero, List.setIfInBounds_toArray, List.set_cons_zero, List.set_cons_succ]
      clear h20
      refine wpAnyH_take (i := 8) (v := ?_) rfl (by kernel_rfl) (by kernel_rfl) (by kernel_rfl) (fun _ _ _ h => h) (Or.inl ⟨by kernel_rfl, ?_⟩) (by assumption) ?_
      rotate_left
      · (intro wS hwS; (try dsimp only at hwS); go_simp; try (first | (with_reducible rfl) | rw [if_pos (by omega)] | rw [if_neg (by omega)]))
      try simp only [Act.put, List.getElem_toArray, List.getElem_cons_succ, List.getElem_cons_zero, List.setIfInBounds_toArray, List.set_cons_zero, List.set_cons_succ]
      refine wpAnyH_take (i := 9) (v := ?_) rfl (by kernel_rfl) (by kernel_rfl) (by kernel_rfl) (fun _ _ _ h => h) (Or.inl ⟨by kernel_rfl, ?_⟩) (by assumption) ?_
      rotate_left
      · (intro wS hwS; (try dsimp only at hwS); go_simp; try (first | (with_reducible rfl) | rw [if_pos (by omega)] | rw [if_neg (by omega)]))
      try simp only [Act.put, List.getElem_toArray, List.getElem_cons_succ, List.getElem_cons_zero, List.setIfInBounds_toArray, List.set_cons_zero, List.set_cons_succ]
      refine wpAnyH_done (by kernel_rfl) ?_ _
      have HE := both_two hob hrf7 hm7 hl7 hd7 hm8 hr8
      clear hrf7 hm7 hl7 hd7 hm8 hr8 hHeld k0 hbo
      obtain ⟨-, hm9, hE⟩ := HE
      have HE2 := Lib.hid hE
      have HM := Lib.hid (hm.trans hm9)
      clear hE hm hm9
      go_wp2_with fail
      go_ret
      exact ⟨rfl, HM.out, HE2.out⟩
    replace e4 : (ki == 4) = false := by simpa using e4
    by_cases e5 : ki = 5
    · subst e5
      have HP := fun (v : World) (h : IsDk v gd bd N l lost armed left) => pcut nm n hf1 v h (by omega) (Nat.le_trans (get_bd hbo.sm nm) (by omega))
      have HR := fun (v : World) (h : IsRf v gr l lost (rl armed left)) => rcut (armed := armed) nm n v h hbo.dk.left0 (by omega) (Nat.le_trans (get_bd hbo.sm nm) (by omega))
      have hob := ob_cu (lost := lost) (armed := armed) (left := left) hbo.dk.mp.asc hbo.sm nm n hf1
      generalize cuO nm n l lost armed left = o at *
      go_upto_region 14 with fail
      have k0 : ∀ w' : World, At w' g5 40 [.int .i64 5, .string nm, .string to, .string bb, .int .i64 n, .slice KA kn kc] → _ := fun w' h => (at6 h).1
      refine region_begin (fun w' : World => At w' g5 40 [.int .i64 5, .string nm, .string to, .string bb, .int .i64 n, .slice KA kn kc]) (by kernel_rfl) (h5.drew) (fun hHeld => ?_)
      replace hbo := hbo.drew
      replace hm := hm.drew
      clear h5 x0 x1 x2 x3 x4 x5 xf
      generalize World.drew _ = w6 at *
      skip
      refine wpAnyH_take (i := 0) (v := ?_) rfl (by kernel_rfl) (by kernel_rfl) (by kernel_rfl) (fun _ _ _ h => h) (Or.inl ⟨by kernel_rfl, ?_⟩) (by assumption) ?_
      rotate_left
      · (intro wS hwS; (try dsimp only at hwS); go_simp; try (first | (with_reducible rfl) | rw [if_pos (by omega)] | rw [if_neg (by omega)]))
      try simp only [Act.put, List.getElem_toArray, List.getElem_cons_succ, List.getElem_cons_zero, List.setIfInBounds_toArray, List.set_cons_zero, List.set_cons_succ]
      refine wpAnyH_take (i := 1) (v := ?_) rfl (by kernel_rfl) (by kernel_rfl) (by kernel_rfl) (fun _ _ _ h => h) (Or.inl ⟨by kernel_rfl, ?_⟩) (by assumption) ?_
      rotate_left
      · (intro wS hwS; (try dsimp only at hwS); go_simp; try (first | (with_reducible rfl) | rw [if_pos (by omega)] | rw [if_neg (by omega)]))
      try simp only [Act.put, List.getElem_toArray, List.getElem_cons_succ, List.getElem_cons_zero, List.setIfInBounds_toArray, List.set_cons_zero, List.set_cons_succ]
      refine wpAnyH_take (i := 2) (v := ?_) rfl (by kernel_rfl) (by kernel_rfl) (by kernel_rfl) (fun _ _ _ h => h) (Or.inl ⟨by kernel_rfl, ?_⟩) (by assumption) ?_
      rotate_left
      · (intro wS hwS; (try dsimp only at hwS); go_simp; try (first | (with_reducible rfl) | rw [if_pos (by omega)] | rw [if_neg (by omega)]))
      try simp only [Act.put, List.getElem_toArray, List.getElem_cons_succ, List.getElem_cons_zero, List.setIfInBounds_toArray, List.set_cons_zero, List.set_cons_succ]
      refine wpAnyH_take (i := 3) (v := ?_) rfl (by kernel_rfl) (by kernel_rfl) (by kernel_rfl) (fun _ _ _ h => h) (Or.inl ⟨by kernel_rfl, ?_⟩) (by assumption) ?_
      rotate_left
      · (intro wS hwS; (try dsimp only at hwS); go_simp; try (first | (with_reducible rfl) | rw [if_pos (by omega)] | rw [if_neg (by omega)]))
      try simp only [Act.put, List.getElem_toArray, List.getElem_cons_succ, List.getElem_cons_zero, List.setIfInBounds_toArray, List.set_cons_zero, List.set_cons_succ]
      refine wpAnyH_take (i := 4) (v := ?_) rfl (by kernel_rfl) (by kernel_rfl) (by kernel_rfl) (fun _ _ _ h => h) (Or.inl ⟨by kernel_rfl, ?_⟩) (by assumption) ?_
      rotate_left
      · (intro wS hwS; (try dsimp only at hwS); go_simp; try (first | (with_reducible rfl) | rw [if_pos (by omega)] | rw [if_neg (by omega)]))
      try simp only [Act.put, List.getElem_toArray, List.getElem_cons_succ, List.getElem_cons_zero, List.setIfInBounds_toArray, List.set_cons_zero, List.set_cons_succ]
      refine wpAnyH_take (i := 6) (v := ?_) rfl (by kernel_rfl) (by kernel_rfl) (by kernel_rfl) (fun _ _ _ h => h) (Or.inl ⟨by kernel_rfl, ?_⟩) (by assumption) ?_
      rotate_left
      · (intro wS hwS; (try dsimp only at hwS); go_simp; try (first | (with_reducible rfl) | rw [if_pos (by omega)] | rw [if_neg (by omega)]))
      try simp only [Act.put, List.getElem_toArray, List.getElem_cons_succ, List.getElem_cons_zero, List.setIfInBounds_toArray, List.set_cons_zero, List.set_cons_succ]
      refine wpAnyH_take (i := 7) (v := ?_) rfl (by kernel_rfl) (by kernel_rfl) (by kernel_rfl) (fun _ _ _ h => h) (Or.inl ⟨by kernel_rfl, ?_⟩) (by assumption) ?_
      rotate_left
      · (intro wS hwS; (try dsimp only at hwS); go_simp; try (first | (with_reducible rfl) | rw [if_pos (by omega)] | rw [if_neg (by omega)]))
      try simp only [Act.put, List.getElem_toArray, List.getElem_cons_succ, List.getElem_cons_zero, List.setIfInBounds_toArray, List.set_cons_zero, List.set_cons_succ]
      refine wpAnyH_take (i := 8) (v := ?_) rfl (by kernel_rfl) (by kernel_rfl) (by kernel_rfl) (fun _ _ _ h => h) (Or.inl ⟨by kernel_rfl, ?_⟩) (by assumption) ?_
      rotate_left
      · (intro wS hwS; (try dsimp only at hwS); go_simp; try (first | (with_reducible rfl) | rw [if_pos (by omega)] | rw [if_neg (by omega)]))
      try simp only [Act.put, List.getElem_toArray, List.getElem_cons_succ, List.getElem_cons_zero, List.setIfInBounds_toArray, List.set_cons_zero, List.set_cons_succ]
      refine wpAnyH_take (i := 9) (v := ?_) rfl (by kernel_rfl) (by kernel_rfl) (by kernel_rfl) (fun _ _ _ h => h) (Or.inl ⟨by kernel_rfl, ?_⟩) (by assumption) ?_
      rotate_left
      · (intro wS hwS; (try dsimp only at hwS); go_simp; try (first | (with_reducible rfl) | rw [if_pos (by omega)] | rw [if_neg (by omega)]))
      try simp only [Act.put, List.getElem_toArray, List.getElem_cons_succ, List.getElem_cons_zero, List.setIfInBounds_toArray, List.set_cons_zero, List.set_cons_succ]
      refine wpAnyH_take (i := 10) (v := ?_) rfl (by kernel_rfl) (by kernel_rfl) (by kernel_rfl) (fun _ _ _ h => h) (Or.inl ⟨by kernel_rfl, ?_⟩) (by assumption) ?_
      rotate_left
      · (intro wS hwS; (try dsimp only at hwS); go_simp; try (first | (with_reducible rfl) | rw [if_pos (by omega)] | rw [if_neg (by omega)]))
      try simp only [Act.put, List.getElem_toArray, List.getElem_cons_succ, List.getElem_cons_zero, List.setIfInBounds_toArray, List.set_cons_zero, List.set_cons_succ]
      refine region_one 5 (by kernel_rfl) rfl (fun K hK => ?_)
      go_simp
      refine (HP _ hbo.dk ).mono ?_
      rintro z w7 ⟨rfl, hm7, l7, hl7, hd7⟩
      have hrf7 := hbo.rf.keep hbo.dk hm7
      have h20 : At _ g5 40 [.int .i64 5, .string nm, .string to, .string bb, .int .i64 n, .slice KA kn kc] := hm7.at hHeld (hbo.dk.freeAt hHeld (by decide))
      clear hHeld
      refine hK.out _ _ (fun w' : World => At w' g5 40 [.int .i64 5, .string nm, .string to, .string bb, .int .i64 n, .slice KA kn kc]) (h20) (fun _ h => h) (fun hHeld => ?_)
      clear hK K
      try simp only [Act.put, List.getElem_toArray, List.getElem_cons_succ, List.getElem_cons_zero, List.setIfInBounds_toArray, List.set_cons_zero, List.set_cons_succ]
      clear h20
      refine region_one 11 (by kernel_rfl) rfl (fun K hK => ?_)
      go_simp
      refine (HR _ hrf7).mono ?_
      rintro z w8 ⟨rfl, hm8, hr8⟩
      have h20 : At _ g5 40 [.int .i64 5, .string nm, .string to, .string bb, .int .i64 n, .slice KA kn kc] := hm8.at hHeld (hrf7.freeAt hHeld (by decide))
      clear hHeld
      refine hK.out _ _ (fun w' : World => At w' g5 40 [.int .i64 5, .string nm, .string to, .string bb, .int .i64 n, .slice KA kn kc]) (h20) (fun _ h => h) (fun hHeld => ?_)
      clear hK K
      try simp only [Act.put, List.getElem_toArray, List.getElem_cons_succ, List.getElem_cons_zero, List.setIfInBounds_toArray, List.set_cons_zero, List.set_cons_succ]
      clear h20
      refine wpAnyH_take (i := 12) (v := ?_) rfl (by kernel_rfl) (by kernel_rfl) (by kernel_rfl) (fun _ _ _ h => h) (Or.inl ⟨by kernel_rfl, ?_⟩) (by assumption) ?_
      rotate_left
      · (intro wS hwS; (try dsimp only at hwS); go_simp; try (first | (with_reducible rfl) | rw [if_pos (by omega)] | rw [if_neg (by omega)]))
      try simp only [Act.put, List.getElem_toArray, List.getElem_cons_succ, List.getElem_cons_zero, List.setIfInBounds_toArray, List.set_cons_zero, List.set_cons_succ]
      refine wpAnyH_take (i := 13) (v := ?_) rfl (by kernel_rfl) (by kernel_rfl) (by kernel_rfl) (fun _ _ _ h => h) (Or.inl ⟨by kernel_rfl, ?_⟩) (by assumption) ?_
      rotate_left
      · (intro wS hwS; (try dsimp only at hwS); go_simp; try (first | (with_reducible rfl) | rw [if_pos (by omega)] | rw [if_neg (by omega)]))
      try simp only [Act.put, List.getElem_toArray, List.getElem_cons_succ, List.getElem_cons_zero, List.setIfInBounds_toArray, List.set_cons_zero, List.set_cons_succ]
      refine wpAnyH_done (by kernel_rfl) ?_ _
      have HE := both_two hob hrf7 hm7 hl7 hd7 hm8 hr8
      clear hrf7 hm7 hl7 hd7 hm8 hr8 hHeld k0 hbo
      obtain ⟨-, hm9, hE⟩ := HE
      have HE2 := Lib.hid hE
      have HM := Lib.hid (hm.trans hm9)
      clear hE hm hm9
      go_wp2_with fail
      go_ret
      exact ⟨rfl, HM.out, HE2.out⟩
    replace e5 : (ki == 5) = false := by simpa using e5
    by_cases e6 : ki = 6
    · subst e6
      have HP := arm_any n hf4.2 w5 hbo.dk
      go_upto_region 17 with (((with_reducible refine (HP).mono ?_); rintro z w6 ⟨rfl, hd6, hG6⟩))
      have hm6 : Mod (fun i _ => i = gd ∨ i = bd) w5 w6 := (mod_one hG6).mono fun i o _ _ e => .inl e
      have hrf6 := hbo.rf.keep hbo.dk hm6
      have HR := rarm_any n w6 hrf6
      replace h5 := hm6.at h5 (hbo.dk.freeAt h5 (by decide))
      clear HP hG6 x0 x1 x2 x3 x4 x5 xf
      obtain ⟨⟨x0, x1, x2, x3, x4, x5⟩, xf⟩ := at6 h5
      go_upto_region 21 with (((with_reducible refine (HR).mono ?_); rintro z w7 ⟨rfl, hr7, hG7⟩))
      have hm7 := mod_one hG7
      have HE := Lib.hid (show Both w7 gd bd gr N l lost true (if n < 0 then 0 else n) (M + 50) from ⟨hd6.keep hrf6 hm7, hr7, hbo.sm.mono (by omega)⟩)
      have HM := Lib.hid ((hm.trans (mod_dk hm6)).trans (mod_rf hm7))
      clear HR hG7 hm7 hr7 hrf6 hd6 hm6 hbo h5 hm x0 x1 x2 x3 x4 x5 xf
      go_wp2_with fail
      go_ret
      exact ⟨rfl, HM.out, N, l, lost, true, _, HE.out, by omega, by omega⟩
    replace e6 : (ki == 6) = false := by simpa using e6
    by_cases e7 : ki = 7
    · subst e7
      have hsd : ∀ x ∈ l, 0 ≤ x.s ∧ x.s ≤ x.b.length ∧ x.b.length ≤ 100000000 := fun x hx => ⟨(hbo.dk.own x hx).2.1, (hbo.dk.own x hx).2.2, Nat.le_trans (hbo.sm x hx).1 (by omega)⟩
      have HP := crash_any KA kn kc ks w5 hbo.dk (by omega) (by omega) (fun v hv => HK.out v (hm.trans (hv.mono fun i o _ _ e => .inr (.inl e)))) HKS.out (fun x hx => ⟨Nat.le_trans (hbo.sm x hx).1 (by omega), (hbo.sm x hx).2⟩)
      go_upto_region 20 with (((with_reducible refine (HP).mono ?_); rintro z w6 ⟨rfl, hm6, l6, hl6, hd6⟩))
      have hrf6 := hbo.rf.keep hbo.dk hm6
      have HR := rcrash_any KA kn kc ks w6 hrf6 (HK.out _ (hm.trans (mod_dk hm6))) HKS.out (by omega) hsd
      replace h5 := hm6.at h5 (hbo.dk.freeAt h5 (by decide))
      clear HP x0 x1 x2 x3 x4 x5 xf
      obtain ⟨⟨x0, x1, x2, x3, x4, x5⟩, xf⟩ := at6 h5
      go_upto_region 21 with (((with_reducible refine (HR).mono ?_); rintro z w7 ⟨rfl, hm7, hr7⟩))
      have hl6' : l6.length = l.length := by have := congrArg List.length hl6; rw [List.length_map, crashF_length] at this; exact this
      have hrow : l6.flatMap Fi.row = (crashF ks 0 l).flatMap Fi.row := by rw [← hl6]; exact (flatMap_core l6).symm
      have HE := Lib.hid (show Both w7 gd bd gr (N + l.length) l6 false false 0 (M + 50) from ⟨hd6.keep hrf6 hm7, hr7.same hrow, crash_bd hl6 (hbo.sm.mono (by omega))⟩)
      have HM := Lib.hid ((hm.trans (mod_dk hm6)).trans (mod_rf hm7))
      clear HR hm7 hr7 hrf6 hd6 hm6 hbo h5 hm hl6 hrow hsd x0 x1 x2 x3 x4 x5 xf
      go_wp2_with fail
      go_ret
      exact ⟨rfl, HM.out, N + l.length, l6, false, false, 0, HE.out, by omega, by omega⟩
    replace e7 : (ki == 7) = false := by simpa using e7
    have HE := Lib.hid hbo
    have HM := Lib.hid hm
    clear hbo h5 hm
    go_wp2_with fail
    go_ret
    exact ⟨rfl, HM.out, N, l, lost, armed, left, ⟨HE.out.dk, HE.out.rf, HE.out.sm.mono (by omega)⟩, by omega, by omega⟩
end
end Go.Proofs.Ytmoijbknjadeeaa
