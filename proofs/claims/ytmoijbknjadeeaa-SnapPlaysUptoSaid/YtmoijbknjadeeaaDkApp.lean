
/- Chapter 6: Append, Sync, Remove, Cut, Rename. -/
import Derived.Test.YtmoijbknjadeeaaDkOps
import Derived.Test.YtmoijbknjadeeaaSlices
namespace Go.Proofs.Ytmoijbknjadeeaa
set_option linter.unusedVariables false
set_option linter.unusedSimpArgs false
open Go.RowKit
theorem own_pair {w : World} {base n c : Nat} {A : Option Addr} {l : List UInt8} (h : OwnB w base A n c l) : ∃ P : Option (Nat × Nat), A = P.map fun p => ⟨p.1, p.2, none⟩ := by
  rcases h.2 with ⟨e, h0⟩ | ⟨g, cap, cur, e, _⟩
  · injection e with e1 e2 e3
    exact ⟨none, e1⟩
  · injection e with e1 e2 e3
    exact ⟨some (g, 0), e1⟩
theorem emptyS_iff (k : ByteArray) : k.toList.isEmpty = !decide (1 ≤ k.size) := by
  rw [Bool.eq_iff_iff, Lib.toList_data, List.isEmpty_iff]
  have e : k.data.toList.length = k.size := by rw [Array.length_toList]; rfl
  simp only [Bool.not_eq_true', decide_eq_false_iff_not]
  constructor
  · intro h; rw [h] at e; simp at e; omega
  · intro h; exact List.eq_nil_of_length_eq_zero (by omega)
theorem grown_mod' {w w' : World} {g b : Nat} (h : w.grownBy w' (some g)) : Mod (fun i _ => i = g ∨ i = b) w w' := (grown_mod h).mono (fun i o _ _ e => .inl (Option.some.inj e).symm)
theorem lt_maxN {N : Nat} (h : N < 1000000) : N < maxLen := by simp only [maxLen]; omega
section
variable {g b N : Nat} {l : List Fi} {lost armed : Bool} {left : Int}
theorem append_nil (k : ByteArray) (A : Option Addr) (n c : Nat) (w : World) : Calls Try.prog 16 #[.pointer none, .string k, .slice A n c] w fun x w' => x = .returned (.int .i64 2) ∧ w = w' := by
  go_enter Try.func16, Try.ntmps16
  go_wp2_with fail
  go_ret
  exact ⟨rfl, rfl⟩
set_option maxRecDepth 100000 in
set_option maxHeartbeats 1000000 in
theorem append_empty (k : ByteArray) (hk : k.size = 0) (A : Option Addr) (n c : Nat) (w : World) : Calls Try.prog 16 #[.pointer (some ⟨g, 0, none⟩), .string k, .slice A n c] w fun x w' => x = .returned (.int .i64 1) ∧ w = w' := by
  have he := emptyS_iff k
  rw [decide_eq_false (by omega)] at he
  go_enter Try.func16, Try.ntmps16
  go_wp2_with fail
  go_ret
  exact ⟨rfl, rfl⟩
set_option maxRecDepth 100000 in
set_option maxHeartbeats 1000000 in
theorem append_lost (k : ByteArray) (hk : 1 ≤ k.size) (A : Option Addr) (n c : Nat) (w : World) (h : IsDk w g b N l true armed left) : Calls Try.prog 16 #[.pointer (some ⟨g, 0, none⟩), .string k, .slice A n c] w fun x w' => x = .returned (.int .i64 12) ∧ IsDk w' g b N l true armed left ∧ w.grownBy w' (some g) := by
  have he := emptyS_iff k
  rw [decide_eq_true hk] at he
  have HW := write_any w h
  unfold wrP at HW
  simp only [if_true] at HW
  clear h
  go_enter Try.func16, Try.ntmps16
  go_wp2_with (((with_reducible refine (HW).mono ?_); rintro z w1 ⟨rfl, h1, hG1⟩))
  go_ret
  exact ⟨rfl, h1, hG1⟩
/-- a write that stands -/
def StoreR (w w' : World) (g b N : Nat) (l : List Fi) (armed : Bool) (left : Int) (k : ByteArray) (bs : List UInt8) (s : Int) (x : Ending) : Prop :=
  x = .returned (.int .i64 (wrP false armed left).code) ∧ Mod (fun i _ => i = g ∨ i = b) w w' ∧ ∃ P n c, IsDk w' g b (N + 1) (applyF ⟨k, bs, P, n, c, s⟩ false l) (wrP false armed left).lost armed (wrP false armed left).left
set_option maxRecDepth 100000 in
set_option maxHeartbeats 2000000 in
theorem append_yes (k : ByteArray) (hk : 1 ≤ k.size) (hkm : k.size ≤ maxLen) (A : Option Addr) (n c : Nat) (y : List UInt8) (w : World) (h : IsDk w g b N l false armed left) (hr : ∀ v, w.grownBy v (some g) → RdB v v.heap.size A n c y) (hn : n ≤ 100000000) (hN : N < 1000000) (hsz : ∀ x ∈ l, x.b.length ≤ 100000000) :
    Calls Try.prog 16 #[.pointer (some ⟨g, 0, none⟩), .string k, .slice A n c] w fun x w' => StoreR w w' g b N l armed left k ((getF l k).b ++ y) (getF l k).s x := by
  have he := emptyS_iff k
  rw [decide_eq_true hk] at he
  have HW := write_any w h
  have hcn : (wrP false armed left).code = 0 ∨ ((wrP false armed left).code = 12 ∧ (wrP false armed left).now = true) := by
    unfold wrP
    cases armed
    · exact .inl rfl
    · by_cases h0 : left = 0
      · exact .inr ⟨by simp [h0], by simp [h0]⟩
      · exact .inl (by simp [h0])
  have hln := (h.get k).1.length
  have hls : (getF l k).b.length ≤ 100000000 := by
    cases hf : (findF l k).isSome with
    | true => exact hsz _ (h.find hf).1
    | false =>
      have e : getF l k = Fi.zero := by unfold getF; cases hx : findF l k with
        | none => rfl
        | some x => rw [hx] at hf; cases hf
      rw [e]; simp [Fi.zero]
  have hgt := (h.get k).2
  unfold StoreR
  obtain ⟨q, hq⟩ : ∃ q, wrP false armed left = q := ⟨_, rfl⟩
  rw [hq] at HW hcn ⊢
  clear hq hsz
  obtain ⟨code, now, lost', left'⟩ := q
  simp only at HW hcn ⊢
  obtain ⟨f, hf⟩ : ∃ f, getF l k = f := ⟨_, rfl⟩
  rw [hf] at hln hls hgt ⊢
  have HF := Lib.hid hf
  clear hf
  obtain ⟨fk, fb, fA, fn, fc, fs⟩ := f
  simp only at hln hls hgt ⊢
  have H := Lib.hid h
  have HR := Lib.hid hr
  have HCN := Lib.hid hcn
  have hgl := h.lt
  clear h hr hcn
  have main : ∀ (t : Unit), (code = 0 ∨ (code = 12 ∧ now = true)) → Calls Try.prog 16 #[.pointer (some ⟨g, 0, none⟩), .string k, .slice A n c] w fun x w' => x = .returned (.int .i64 code) ∧ Mod (fun i _ => i = g ∨ i = b) w w' ∧ ∃ P n c, IsDk w' g b (N + 1) (applyF ⟨k, fb ++ y, P, n, c, fs⟩ false l) lost' armed left' := by
    intro _ hcn
    rcases hcn with rfl | ⟨rfl, rfl⟩
    all_goals
      go_enter Try.func16, Try.ntmps16
      go_upto_region 7 with (((with_reducible refine (HW).mono ?_); rintro z w1 ⟨rfl, h1, hG1⟩))
      have hm1 := grown_mod' (b := b) hG1
      have hr1 := HR.out w1 hG1
      have hlk := h1.mp.look1 hkm
      rw [HF.out] at hlk
      unfold Fi.val at hlk
      simp only at hlk
      have hfo := (h1.get k).1
      rw [HF.out] at hfo
      simp only at hfo
      generalize Fi.addr _ = fA' at *
      obtain ⟨⟨x0, x1, x2, x3⟩, xf⟩ := at4 h1.at_
      clear HW hG1
      go_upto_region 8 with fail
      obtain ⟨h9, hb2⟩ := one_at w1 94 [.slice fA' fn fc, .int .i64 fs]
      have H1 := Lib.hid (h1.step hb2)
      have hm2 := hm1.below hb2
      have hr2 := Rd.step (show Rd _ _ _ _ _ _ _ from hr1) hb2
      have hfo2 := own_below (show World.ownsRow _ _ _ _ _ _ _ from hfo) hb2
      clear h1 hm1 hr1 hfo hb2 x0 x1 x2 x3 xf hlk
      generalize World.alloc w1 _ = w2 at *
      generalize w1.heap.size = g9 at *
      refine region_any (by kernel_rfl) ?_
      change wpAny _ _ _ _ _ _ _ (World.drew _)
      replace h9 := h9.drew
      have h1 := H1.out.drew
      have HM := Lib.hid hm2.drew
      have hr3 : RdB w2.drew w2.drew.heap.size A n c y := RdB.drew hr2
      have hfo3 : OwnB w2.drew 0 fA' fn fc fb := hfo2
      clear hm2 hr2 hfo2 H1
      generalize World.drew _ = w3 at *
      obtain ⟨⟨x0, x1, x2, x3⟩, xf⟩ := at4 h1.at_
      obtain ⟨⟨y0, y1⟩, yf⟩ := at2 h9
      have l1 := h1.lt.1
      have l9 := h9.lt
      refine stage 13 ?_
      refine stage_read (i := 0) (v := ?_) rfl (by kernel_rfl) (by kernel_rfl) (by kernel_rfl) (by kernel_rfl) (by kernel_rfl) (by kernel_rfl) (fun _ _ _ h => h) (Or.inl ⟨by kernel_rfl, ?_⟩) ?_
      rotate_left
      · (intro wS hwS; obtain ⟨hcS, hfS, hhS⟩ := bcell hwS; go_simp; try (first | (with_reducible rfl) | rw [if_pos (by omega)] | rw [if_neg (by omega)]))
      try simp only [Act.put, List.getElem_toArray, List.getElem_cons_succ, List.getElem_cons_zero, List.setIfInBounds_toArray, List.set_cons_zero, List.set_cons_succ]
      refine stage_read (i := 1) (v := ?_) rfl (by kernel_rfl) (by kernel_rfl) (by kernel_rfl) (by kernel_rfl) (by kernel_rfl) (by kernel_rfl) (fun _ _ _ h => h) (Or.inl ⟨by kernel_rfl, ?_⟩) ?_
      rotate_left
      · (intro wS hwS; obtain ⟨hcS, hfS, hhS⟩ := bcell hwS; go_simp; try (first | (with_reducible rfl) | rw [if_pos (by omega)] | rw [if_neg (by omega)]))
      try simp only [Act.put, List.getElem_toArray, List.getElem_cons_succ, List.getElem_cons_zero, List.setIfInBounds_toArray, List.set_cons_zero, List.set_cons_succ]
      refine stage_read (i := 2) (v := ?_) rfl (by kernel_rfl) (by kernel_rfl) (by kernel_rfl) (by kernel_rfl) (by kernel_rfl) (by kernel_rfl) (fun _ _ _ h => h) (Or.inl ⟨by kernel_rfl, ?_⟩) ?_
      rotate_left
      · (intro wS hwS; obtain ⟨hcS, hfS, hhS⟩ := bcell hwS; go_simp; try (first | (with_reducible rfl) | rw [if_pos (by omega)] | rw [if_neg (by omega)]))
      try simp only [Act.put, List.getElem_toArray, List.getElem_cons_succ, List.getElem_cons_zero, List.setIfInBounds_toArray, List.set_cons_zero, List.set_cons_succ]
      refine stage_read (i := 3) (v := ?_) rfl (by kernel_rfl) (by kernel_rfl) (by kernel_rfl) (by kernel_rfl) (by kernel_rfl) (by kernel_rfl) (fun _ _ _ h => h) (Or.inl ⟨by kernel_rfl, ?_⟩) ?_
      rotate_left
      · (intro wS hwS; obtain ⟨hcS, hfS, hhS⟩ := bcell hwS; go_simp; try (first | (with_reducible rfl) | rw [if_pos (by omega)] | rw [if_neg (by omega)]))
      try simp only [Act.put, List.getElem_toArray, List.getElem_cons_succ, List.getElem_cons_zero, List.setIfInBounds_toArray, List.set_cons_zero, List.set_cons_succ]
      refine stage_read (i := 4) (v := ?_) rfl (by kernel_rfl) (by kernel_rfl) (by kernel_rfl) (by kernel_rfl) (by kernel_rfl) (by kernel_rfl) (fun _ _ _ h => h) (Or.inl ⟨by kernel_rfl, ?_⟩) ?_
      rotate_left
      · (intro wS hwS; obtain ⟨hcS, hfS, hhS⟩ := bcell hwS; go_simp; try (first | (with_reducible rfl) | rw [if_pos (by omega)] | rw [if_neg (by omega)]))
      try simp only [Act.put, List.getElem_toArray, List.getElem_cons_succ, List.getElem_cons_zero, List.setIfInBounds_toArray, List.set_cons_zero, List.set_cons_succ]
      refine stage_read (i := 5) (v := ?_) rfl (by kernel_rfl) (by kernel_rfl) (by kernel_rfl) (by kernel_rfl) (by kernel_rfl) (by kernel_rfl) (fun _ _ _ h => h) (Or.inl ⟨by kernel_rfl, ?_⟩) ?_
      rotate_left
      · (intro wS hwS; obtain ⟨hcS, hfS, hhS⟩ := bcell hwS; go_simp; try (first | (with_reducible rfl) | rw [if_pos (by omega)] | rw [if_neg (by omega)]))
      try simp only [Act.put, List.getElem_toArray, List.getElem_cons_succ, List.getElem_cons_zero, List.setIfInBounds_toArray, List.set_cons_zero, List.set_cons_succ]
      refine stage_read (i := 6) (v := ?_) rfl (by kernel_rfl) (by kernel_rfl) (by kernel_rfl) (by kernel_rfl) (by kernel_rfl) (by kernel_rfl) (fun _ _ _ h => h) (Or.inl ⟨by kernel_rfl, ?_⟩) ?_
      rotate_left
      · (intro wS hwS; obtain ⟨hcS, hfS, hhS⟩ := bcell hwS; go_simp; try (first | (with_reducible rfl) | rw [if_pos (by omega)] | rw [if_neg (by omega)]))
      try simp only [Act.put, List.getElem_toArray, List.getElem_cons_succ, List.getElem_cons_zero, List.setIfInBounds_toArray, List.set_cons_zero, List.set_cons_succ]
      refine stage_read (i := 7) (v := ?_) rfl (by kernel_rfl) (by kernel_rfl) (by kernel_rfl) (by kernel_rfl) (by kernel_rfl) (by kernel_rfl) (fun _ _ _ h => h) (Or.inl ⟨by kernel_rfl, ?_⟩) ?_
      rotate_left
      · (intro wS hwS; obtain ⟨hcS, hfS, hhS⟩ := bcell hwS; go_simp; try (first | (with_reducible rfl) | rw [if_pos (by omega)] | rw [if_neg (by omega)]))
      try simp only [Act.put, List.getElem_toArray, List.getElem_cons_succ, List.getElem_cons_zero, List.setIfInBounds_toArray, List.set_cons_zero, List.set_cons_succ]
      refine stage_read (i := 10) (v := ?_) rfl (by kernel_rfl) (by kernel_rfl) (by kernel_rfl) (by kernel_rfl) (by kernel_rfl) (by kernel_rfl) (fun _ _ _ h => h) (Or.inl ⟨by kernel_rfl, ?_⟩) ?_
      rotate_left
      · (intro wS hwS; obtain ⟨hcS, hfS, hhS⟩ := bcell hwS; go_simp; try (first | (with_reducible rfl) | rw [if_pos (by omega)] | rw [if_neg (by omega)]))
      try simp only [Act.put, List.getElem_toArray, List.getElem_cons_succ, List.getElem_cons_zero, List.setIfInBounds_toArray, List.set_cons_zero, List.set_cons_succ]
      refine stage_read (i := 11) (v := ?_) rfl (by kernel_rfl) (by kernel_rfl) (by kernel_rfl) (by kernel_rfl) (by kernel_rfl) (by kernel_rfl) (fun _ _ _ h => h) (Or.inl ⟨by kernel_rfl, ?_⟩) ?_
      rotate_left
      · (intro wS hwS; obtain ⟨hcS, hfS, hhS⟩ := bcell hwS; go_simp; try (first | (with_reducible rfl) | rw [if_pos (by omega)] | rw [if_neg (by omega)]))
      try simp only [Act.put, List.getElem_toArray, List.getElem_cons_succ, List.getElem_cons_zero, List.setIfInBounds_toArray, List.set_cons_zero, List.set_cons_succ]
      refine stage_one 8 (by kernel_rfl) rfl (by kernel_rfl) (fun K hK => ?_)
      go_simp
      obtain ⟨hgb, hb4⟩ := one_at w3 27 [.slice fA' fn fc, .slice A n c]
      refine hK.out _ _ (hb4) ?_
      clear hK K
      try simp only [Act.put, List.getElem_toArray, List.getElem_cons_succ, List.getElem_cons_zero, List.setIfInBounds_toArray, List.set_cons_zero, List.set_cons_succ]
      replace h1 := h1.step hb4
      replace h9 := h9.step hb4
      have HM := Lib.hid (HM.out.below hb4)
      have hr4 := Rd.step (show Rd _ _ _ _ _ _ _ from hr3) hb4
      have hfo4 := OwnB.rd (own_below (show World.ownsRow _ _ _ _ _ _ _ from hfo3) hb4)
      clear hb4 x0 x1 x2 x3 xf y0 y1 yf l1 l9 hr3 hfo3
      generalize World.alloc w3 _ = w4 at *
      generalize w3.heap.size = gb at *
      obtain ⟨⟨c0, c1⟩, cf⟩ := at2 hgb
      obtain ⟨⟨x0, x1, x2, x3⟩, xf⟩ := at4 h1.at_
      obtain ⟨⟨y0, y1⟩, yf⟩ := at2 h9
      have l1 := h1.lt.1
      have l9 := h9.lt

      refine stage_one 9 (by kernel_rfl) rfl (by kernel_rfl) (fun K hK => ?_)
      go_simp
      refine (concat2 gb fA' fn fc fb A n c y w4 c0 c1 hfo4 hr4 (by omega) (by omega)).mono ?_
      rintro z w5 ⟨A5, c5, rfl, hown5, hb5⟩
      refine hK.out _ _ (hb5) ?_
      clear hK K
      try simp only [Act.put, List.getElem_toArray, List.getElem_cons_succ, List.getElem_cons_zero, List.setIfInBounds_toArray, List.set_cons_zero, List.set_cons_succ]
      replace h1 := h1.step hb5
      replace h9 := h9.step hb5
      have HM := Lib.hid (HM.out.below hb5)
      obtain ⟨P, hP⟩ := own_pair hown5
      subst hP
      clear hb5 x0 x1 x2 x3 xf y0 y1 yf l1 l9 c0 c1 cf hgb hr4 hfo4
      obtain ⟨⟨x0, x1, x2, x3⟩, xf⟩ := at4 h1.at_
      obtain ⟨⟨y0, y1⟩, yf⟩ := at2 h9
      have l1 := h1.lt.1
      have l9 := h9.lt
      obtain ⟨w6, hrun, hd6, hG6⟩ := h1.store ⟨k, fb ++ y, P, fn + n, c5, fs⟩ hkm (lt_maxN hN) ⟨own_lower (show World.ownsRow _ _ _ _ _ _ _ from hown5) (Nat.zero_le _), hgt.1, by show fs ≤ (((fb ++ y).length : Nat) : Int); rw [List.length_append]; have := hgt.2; omega⟩
      unfold Fi.val Fi.addr at hrun
      dsimp only at hrun
      refine stage_read (i := 12) (v := ?_) rfl (by kernel_rfl) (by kernel_rfl) (by kernel_rfl) (by kernel_rfl) (by kernel_rfl) (by kernel_rfl) (fun _ _ _ h => h) (Or.inl ⟨by kernel_rfl, ?_⟩) ?_
      rotate_left
      · (intro wS hwS; obtain ⟨hcS, hfS, hhS⟩ := bcell hwS; go_simp; try (first | (with_reducible rfl) | rw [if_pos (by omega)] | rw [if_neg (by omega)]))
      try simp only [Act.put, List.getElem_toArray, List.getElem_cons_succ, List.getElem_cons_zero, List.setIfInBounds_toArray, List.set_cons_zero, List.set_cons_succ]
      refine stage_end (by kernel_rfl) rfl (fun K hK => ?_)
      go_simp
      refine hK.out _ _ ?_
      clear hK K
      try simp only [Act.put, List.getElem_toArray, List.getElem_cons_succ, List.getElem_cons_zero, List.setIfInBounds_toArray, List.set_cons_zero, List.set_cons_succ]
      first | refine wpAnyT_done (by kernel_rfl) ?_ _ | refine wpAny_done (by kernel_rfl) ?_ _
      have hm6 := HM.out.grown hG6 (fun i o _ _ e => .inr (Option.some.inj e).symm)
      have HD := Lib.hid hd6
      have HM6 := Lib.hid hm6
      clear x0 x1 x2 x3 xf y0 y1 yf l1 l9 h1 h9 hown5 hrun hG6 HM hd6 hm6
      go_wp2_with fail
      go_ret
      exact ⟨rfl, HM6.out, P, _, c5, HD.out⟩
  exact main () HCN.out
end
end Go.Proofs.Ytmoijbknjadeeaa
