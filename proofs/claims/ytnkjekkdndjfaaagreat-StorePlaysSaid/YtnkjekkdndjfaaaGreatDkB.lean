
/- Chapter 6: Append, Sync, Remove, Cut, Rename. -/
import Derived.Sort.KeysCollected
import Derived.Sort.OwnSorted
import Derived.Maps.RangeWalk
import Derived.Lib.SlBytesConst
import Derived.Test.YtnkjekkdndjfaaaGreatDkA
import Derived.Test.YtnkjekkdndjfaaaGreatSumA
import Derived.Test.YtnkjekkdndjfaaaGreatSorts
namespace Go.Proofs.YtnkjekkdndjfaaaGreat
set_option linter.unusedVariables false
set_option linter.unusedSimpArgs false
open Go.RowKit
theorem own_pair {w : World} {base n c : Nat} {A : Option Addr} {l : List UInt8} (h : OwnB w base A n c l) : ∃ P : Option (Nat × Nat), A = P.map fun p => ⟨p.1, p.2, none⟩ := by
  rcases h.2 with ⟨e, h0⟩ | ⟨g, cap, cur, e, _⟩
  · injection e with e1 e2 e3
    exact ⟨none, e1⟩
  · injection e with e1 e2 e3
    exact ⟨some (g, 0), e1⟩
theorem emptyS_iff (k : ByteArray) : k.toList.isEmpty = !decide (1 ≤ k.size) := by
  rw [Bool.eq_iff_iff, Lib.toList_data, List.isEmpty_iff]
  have e : k.data.toList.length = k.size := by rw [Array.length_toList]; rfl
  simp only [Bool.not_eq_true', decide_eq_false_iff_not]
  constructor
  · intro h; rw [h] at e; simp at e; omega
  · intro h; exact List.eq_nil_of_length_eq_zero (by omega)
theorem grown_mod' {w w' : World} {g b : Nat} (h : w.grownBy w' (some g)) : Mod (fun i _ => i = g ∨ i = b) w w' := (grown_mod h).mono (fun i o _ _ e => .inl (Option.some.inj e).symm)
theorem lt_maxN {N : Nat} (h : N < 1000000) : N < maxLen := by simp only [maxLen]; omega
section
variable {g b N : Nat} {l : List Fi} {lost armed : Bool} {left : Int}
theorem append_nil (k : ByteArray) (A : Option Addr) (n c : Nat) (w : World) : Calls Tryz.prog 9 #[.pointer none, .string k, .slice A n c] w fun x w' => x = .returned (.int .i64 2) ∧ w = w' := by
  go_enter Tryz.func9, Tryz.ntmps9
  go_wp2_with fail
  go_ret
  exact ⟨rfl, rfl⟩
set_option maxRecDepth 100000 in
set_option maxHeartbeats 1000000 in
theorem append_empty (k : ByteArray) (hk : k.size = 0) (A : Option Addr) (n c : Nat) (w : World) : Calls Tryz.prog 9 #[.pointer (some ⟨g, 0, none⟩), .string k, .slice A n c] w fun x w' => x = .returned (.int .i64 1) ∧ w = w' := by
  have he := emptyS_iff k
  rw [decide_eq_false (by omega)] at he
  go_enter Tryz.func9, Tryz.ntmps9
  go_wp2_with fail
  go_ret
  exact ⟨rfl, rfl⟩
set_option maxRecDepth 100000 in
set_option maxHeartbeats 1000000 in
theorem append_lost (k : ByteArray) (hk : 1 ≤ k.size) (A : Option Addr) (n c : Nat) (w : World) (h : IsDk w g b N l true armed left) : Calls Tryz.prog 9 #[.pointer (some ⟨g, 0, none⟩), .string k, .slice A n c] w fun x w' => x = .returned (.int .i64 12) ∧ IsDk w' g b N l true armed left ∧ w.grownBy w' (some g) := by
  have he := emptyS_iff k
  rw [decide_eq_true hk] at he
  have HW := write_any w h
  unfold wrP at HW
  simp only [if_true] at HW
  clear h
  go_enter Tryz.func9, Tryz.ntmps9
  go_wp2_with (((with_reducible refine (HW).mono ?_); rintro z w1 ⟨rfl, h1, hG1⟩))
  go_ret
  exact ⟨rfl, h1, hG1⟩
/-- a write that stands -/
def StoreR (w w' : World) (g b N : Nat) (l : List Fi) (armed : Bool) (left : Int) (k : ByteArray) (bs : List UInt8) (s : Int) (x : Ending) : Prop :=
  x = .returned (.int .i64 (wrP false armed left).code) ∧ Mod (fun i _ => i = g ∨ i = b) w w' ∧ ∃ P n c, IsDk w' g b (N + 1) (applyF ⟨k, bs, P, n, c, s⟩ false l) (wrP false armed left).lost armed (wrP false armed left).left
set_option maxRecDepth 100000 in
set_option maxHeartbeats 2000000 in
theorem append_yes (k : ByteArray) (hk : 1 ≤ k.size) (hkm : k.size ≤ maxLen) (A : Option Addr) (n c : Nat) (y : List UInt8) (w : World) (h : IsDk w g b N l false armed left) (hr : ∀ v, w.grownBy v (some g) → RdB v v.heap.size A n c y) (hn : n ≤ 100000000) (hN : N < 1000000) (hsz : ∀ x ∈ l, x.b.length ≤ 100000000) :
    Calls Tryz.prog 9 #[.pointer (some ⟨g, 0, none⟩), .string k, .slice A n c] w fun x w' => StoreR w w' g b N l armed left k ((getF l k).b ++ y) (getF l k).s x := by
  have he := emptyS_iff k
  rw [decide_eq_true hk] at he
  have HW := write_any w h
  have hcn : (wrP false armed left).code = 0 ∨ ((wrP false armed left).code = 12 ∧ (wrP false armed left).now = true) := by
    unfold wrP
    cases armed
    · exact .inl rfl
    · by_cases h0 : left = 0
      · exact .inr ⟨by simp [h0], by simp [h0]⟩
      · exact .inl (by simp [h0])
  have hln := (h.get k).1.length
  have hls : (getF l k).b.length ≤ 100000000 := by
    cases hf : (findF l k).isSome with
    | true => exact hsz _ (h.find hf).1
    | false =>
      have e : getF l k = Fi.zero := by unfold getF; cases hx : findF l k with
        | none => rfl
        | some x => rw [hx] at hf; cases hf
      rw [e]; simp [Fi.zero]
  have hgt := (h.get k).2
  unfold StoreR
  obtain ⟨q, hq⟩ : ∃ q, wrP false armed left = q := ⟨_, rfl⟩
  rw [hq] at HW hcn ⊢
  clear hq hsz
  obtain ⟨code, now, lost', left'⟩ := q
  simp only at HW hcn ⊢
  obtain ⟨f, hf⟩ : ∃ f, getF l k = f := ⟨_, rfl⟩
  rw [hf] at hln hls hgt ⊢
  have HF := Lib.hid hf
  clear hf
  obtain ⟨fk, fb, fA, fn, fc, fs⟩ := f
  simp only at hln hls hgt ⊢
  have H := Lib.hid h
  have HR := Lib.hid hr
  have HCN := Lib.hid hcn
  have hgl := h.lt
  clear h hr hcn
  have main : ∀ (t : Unit), (code = 0 ∨ (code = 12 ∧ now = true)) → Calls Tryz.prog 9 #[.pointer (some ⟨g, 0, none⟩), .string k, .slice A n c] w fun x w' => x = .returned (.int .i64 code) ∧ Mod (fun i _ => i = g ∨ i = b) w w' ∧ ∃ P n c, IsDk w' g b (N + 1) (applyF ⟨k, fb ++ y, P, n, c, fs⟩ false l) lost' armed left' := by
    intro _ hcn
    rcases hcn with rfl | ⟨rfl, rfl⟩
    all_goals
      go_enter Tryz.func9, Tryz.ntmps9
      go_upto_region 7 with (((with_reducible refine (HW).mono ?_); rintro z w1 ⟨rfl, h1, hG1⟩))
      have hm1 := grown_mod' (b := b) hG1
      have hr1 := HR.out w1 hG1
      have hlk := h1.mp.look1 hkm
      rw [HF.out] at hlk
      unfold Fi.val at hlk
      simp only at hlk
      have hfo := (h1.get k).1
      rw [HF.out] at hfo
      simp only at hfo
      generalize Fi.addr _ = fA' at *
      obtain ⟨⟨x0, x1, x2, x3⟩, xf⟩ := at4 h1.at_
      clear HW hG1
      go_upto_region 8 with fail
      obtain ⟨h9, hb2⟩ := one_at w1 96 [.slice fA' fn fc, .int .i64 fs]
      have H1 := Lib.hid (h1.step hb2)
      have hm2 := hm1.below hb2
      have hr2 := Rd.step (show Rd _ _ _ _ _ _ _ from hr1) hb2
      have hfo2 := own_below (show World.ownsRow _ _ _ _ _ _ _ from hfo) hb2
      clear h1 hm1 hr1 hfo hb2 x0 x1 x2 x3 xf hlk
      generalize World.alloc w1 _ = w2 at *
      generalize w1.heap.size = g9 at *
      refine region_any (by kernel_rfl) ?_
      change wpAny _ _ _ _ _ _ _ (World.drew _)
      replace h9 := h9.drew
      have h1 := H1.out.drew
      have HM := Lib.hid hm2.drew
      have hr3 : RdB w2.drew w2.drew.heap.size A n c y := RdB.drew hr2
      have hfo3 : OwnB w2.drew 0 fA' fn fc fb := hfo2
      clear hm2 hr2 hfo2 H1
      generalize World.drew _ = w3 at *
      obtain ⟨⟨x0, x1, x2, x3⟩, xf⟩ := at4 h1.at_
      obtain ⟨⟨y0, y1⟩, yf⟩ := at2 h9
      have l1 := h1.lt.1
      have l9 := h9.lt
      refine stage 13 ?_
      refine tag [0,1,2,3,4,5,6,7,10,11] ?_
      iterate 10 (
        refine sR (v := ?_) rfl (by kernel_rfl) (fun _ _ _ h => h) (Or.inl ⟨by kernel_rfl, ?_⟩) ?_
        rotate_left
        · (intro wS hwS; obtain ⟨hcS, hfS, hhS⟩ := bcell hwS; go_simp; try (first | (with_reducible rfl) | rw [if_pos (by omega)] | rw [if_neg (by omega)]))
        try simp only [PT])
      refine tagN ?_
      refine stage_one 8 (by kernel_rfl) rfl (by kernel_rfl) (fun K hK => ?_)
      go_simp
      obtain ⟨hgb, hb4⟩ := one_at w3 22 [.slice fA' fn fc, .slice A n c]
      refine hK.out _ _ (hb4) ?_
      clear hK K
      try simp only [PT]
      replace h1 := h1.step hb4
      replace h9 := h9.step hb4
      have HM := Lib.hid (HM.out.below hb4)
      have hr4 := Rd.step (show Rd _ _ _ _ _ _ _ from hr3) hb4
      have hfo4 := OwnB.rd (own_below (show World.ownsRow _ _ _ _ _ _ _ from hfo3) hb4)
      clear hb4 x0 x1 x2 x3 xf y0 y1 yf l1 l9 hr3 hfo3
      generalize World.alloc w3 _ = w4 at *
      generalize w3.heap.size = gb at *
      obtain ⟨⟨c0, c1⟩, cf⟩ := at2 hgb
      obtain ⟨⟨x0, x1, x2, x3⟩, xf⟩ := at4 h1.at_
      obtain ⟨⟨y0, y1⟩, yf⟩ := at2 h9
      have l1 := h1.lt.1
      have l9 := h9.lt

      refine stage_one 9 (by kernel_rfl) rfl (by kernel_rfl) (fun K hK => ?_)
      go_simp
      refine (concat2 gb fA' fn fc fb A n c y w4 c0 c1 hfo4 hr4 (by omega) (by omega)).mono ?_
      rintro z w5 ⟨A5, c5, rfl, hown5, hb5⟩
      refine hK.out _ _ (hb5) ?_
      clear hK K
      try simp only [PT]
      replace h1 := h1.step hb5
      replace h9 := h9.step hb5
      have HM := Lib.hid (HM.out.below hb5)
      obtain ⟨P, hP⟩ := own_pair hown5
      subst hP
      clear hb5 x0 x1 x2 x3 xf y0 y1 yf l1 l9 c0 c1 cf hgb hr4 hfo4
      obtain ⟨⟨x0, x1, x2, x3⟩, xf⟩ := at4 h1.at_
      obtain ⟨⟨y0, y1⟩, yf⟩ := at2 h9
      have l1 := h1.lt.1
      have l9 := h9.lt
      obtain ⟨w6, hrun, hd6, hG6⟩ := h1.store ⟨k, fb ++ y, P, fn + n, c5, fs⟩ hkm (lt_maxN hN) ⟨own_lower (show World.ownsRow _ _ _ _ _ _ _ from hown5) (Nat.zero_le _), hgt.1, by show fs ≤ (((fb ++ y).length : Nat) : Int); rw [List.length_append]; have := hgt.2; omega⟩
      unfold Fi.val Fi.addr at hrun
      dsimp only at hrun
      refine tag [12] ?_
      refine sR (v := ?_) rfl (by kernel_rfl) (fun _ _ _ h => h) (Or.inl ⟨by kernel_rfl, ?_⟩) ?_
      rotate_left
      · (intro wS hwS; obtain ⟨hcS, hfS, hhS⟩ := bcell hwS; go_simp; try (first | (with_reducible rfl) | rw [if_pos (by omega)] | rw [if_neg (by omega)]))
      try simp only [PT]
      refine tagN ?_
      refine stage_end (by kernel_rfl) rfl (fun K hK => ?_)
      go_simp
      refine hK.out _ _ ?_
      clear hK K
      try simp only [PT]
      first | refine wpAnyT_done (by kernel_rfl) ?_ _ | refine wpAny_done (by kernel_rfl) ?_ _
      have hm6 := HM.out.grown hG6 (fun i o _ _ e => .inr (Option.some.inj e).symm)
      have HD := Lib.hid hd6
      have HM6 := Lib.hid hm6
      clear x0 x1 x2 x3 xf y0 y1 yf l1 l9 h1 h9 hown5 hrun hG6 HM hd6 hm6
      go_wp2_with fail
      go_ret
      exact ⟨rfl, HM6.out, P, _, c5, HD.out⟩
  exact main () HCN.out
end
end Go.Proofs.YtnkjekkdndjfaaaGreat
namespace Go.Proofs.YtnkjekkdndjfaaaGreat
set_option linter.unusedVariables false
set_option linter.unusedSimpArgs false
open Go.RowKit
section
variable {g b N : Nat} {l : List Fi} {lost armed : Bool} {left : Int}
theorem wr_cases (lost armed : Bool) (left : Int) : (wrP lost armed left).code = 0 ∨ (wrP lost armed left).code = 12 := by
  unfold wrP
  cases lost
  · cases armed
    · exact .inl rfl
    · by_cases h0 : left = 0
      · exact .inr (by simp [h0])
      · exact .inl (by simp [h0])
  · exact .inr rfl
/-- a write to a file that is there -/
def GoR (w w' : World) (g b N : Nat) (l : List Fi) (armed : Bool) (q : Wr) (NL : List Fi → Prop) (x : Ending) : Prop :=
  x = .returned (.int .i64 q.code) ∧ Mod (fun i _ => i = g ∨ i = b) w w' ∧
  (q.code ≠ 0 → IsDk w' g b N l q.lost armed q.left) ∧
  (q.code = 0 → ∃ l', NL l' ∧ IsDk w' g b (N + 1) l' q.lost armed q.left)
theorem sync_no (k : ByteArray) (hkm : k.size ≤ maxLen) (w : World) (h : IsDk w g b N l lost armed left) (hf : (findF l k).isSome = false) :
    Calls Tryz.prog 80 #[.pointer (some ⟨g, 0, none⟩), .string k] w fun x w' => x = .returned (.int .i64 6) ∧ IsDk w' g b N l lost armed left ∧ Below w.heap.size w w' := by
  have HT := there_any k hkm w h
  rw [hf] at HT
  simp only [Bool.false_eq_true, if_false] at HT
  go_enter Tryz.func80, Tryz.ntmps80
  go_wp2_with (((with_reducible refine (HT).mono ?_); rintro z w1 ⟨rfl, hb1⟩))
  go_ret
  exact ⟨rfl, h.step hb1, hb1⟩
theorem remove_no (k : ByteArray) (hkm : k.size ≤ maxLen) (w : World) (h : IsDk w g b N l lost armed left) (hf : (findF l k).isSome = false) :
    Calls Tryz.prog 86 #[.pointer (some ⟨g, 0, none⟩), .string k] w fun x w' => x = .returned (.int .i64 6) ∧ IsDk w' g b N l lost armed left ∧ Below w.heap.size w w' := by
  have HT := there_any k hkm w h
  rw [hf] at HT
  simp only [Bool.false_eq_true, if_false] at HT
  go_enter Tryz.func86, Tryz.ntmps86
  go_wp2_with (((with_reducible refine (HT).mono ?_); rintro z w1 ⟨rfl, hb1⟩))
  go_ret
  exact ⟨rfl, h.step hb1, hb1⟩
theorem cut_no (k : ByteArray) (m : Int) (hkm : k.size ≤ maxLen) (w : World) (h : IsDk w g b N l lost armed left) (hf : (findF l k).isSome = false) :
    Calls Tryz.prog 87 #[.pointer (some ⟨g, 0, none⟩), .string k, .int .i64 m] w fun x w' => x = .returned (.int .i64 6) ∧ IsDk w' g b N l lost armed left ∧ Below w.heap.size w w' := by
  have HT := there_any k hkm w h
  rw [hf] at HT
  simp only [Bool.false_eq_true, if_false] at HT
  go_enter Tryz.func87, Tryz.ntmps87
  go_wp2_with (((with_reducible refine (HT).mono ?_); rintro z w1 ⟨rfl, hb1⟩))
  go_ret
  exact ⟨rfl, h.step hb1, hb1⟩
theorem rename_no (k to : ByteArray) (hkm : k.size ≤ maxLen) (w : World) (h : IsDk w g b N l lost armed left) (hf : (findF l k).isSome = false) :
    Calls Tryz.prog 82 #[.pointer (some ⟨g, 0, none⟩), .string k, .string to] w fun x w' => x = .returned (.int .i64 6) ∧ IsDk w' g b N l lost armed left ∧ Below w.heap.size w w' := by
  have HT := there_any k hkm w h
  rw [hf] at HT
  simp only [Bool.false_eq_true, if_false] at HT
  go_enter Tryz.func82, Tryz.ntmps82
  go_wp2_with (((with_reducible refine (HT).mono ?_); rintro z w1 ⟨rfl, hb1⟩))
  go_ret
  exact ⟨rfl, h.step hb1, hb1⟩
theorem sync_nil (k : ByteArray) (w : World) : Calls Tryz.prog 80 #[.pointer none, .string k] w fun x w' => x = .returned (.int .i64 2) ∧ w = w' := by
  have HT := there_nil k w
  go_enter Tryz.func80, Tryz.ntmps80
  go_wp2_with (((with_reducible refine (HT).mono ?_); rintro z v ⟨rfl, rfl⟩))
  go_ret
  exact ⟨rfl, rfl⟩
theorem remove_nil (k : ByteArray) (w : World) : Calls Tryz.prog 86 #[.pointer none, .string k] w fun x w' => x = .returned (.int .i64 2) ∧ w = w' := by
  have HT := there_nil k w
  go_enter Tryz.func86, Tryz.ntmps86
  go_wp2_with (((with_reducible refine (HT).mono ?_); rintro z v ⟨rfl, rfl⟩))
  go_ret
  exact ⟨rfl, rfl⟩
theorem cut_nil (k : ByteArray) (m : Int) (w : World) : Calls Tryz.prog 87 #[.pointer none, .string k, .int .i64 m] w fun x w' => x = .returned (.int .i64 2) ∧ w = w' := by
  have HT := there_nil k w
  go_enter Tryz.func87, Tryz.ntmps87
  go_wp2_with (((with_reducible refine (HT).mono ?_); rintro z v ⟨rfl, rfl⟩))
  go_ret
  exact ⟨rfl, rfl⟩
theorem rename_nil (k to : ByteArray) (w : World) : Calls Tryz.prog 82 #[.pointer none, .string k, .string to] w fun x w' => x = .returned (.int .i64 2) ∧ w = w' := by
  have HT := there_nil k w
  go_enter Tryz.func82, Tryz.ntmps82
  go_wp2_with (((with_reducible refine (HT).mono ?_); rintro z v ⟨rfl, rfl⟩))
  go_ret
  exact ⟨rfl, rfl⟩
set_option maxRecDepth 100000 in
set_option maxHeartbeats 2000000 in
theorem remove_go (k : ByteArray) (hkm : k.size ≤ maxLen) (w : World) (h : IsDk w g b N l lost armed left) (hf : (findF l k).isSome = true) :
    Calls Tryz.prog 86 #[.pointer (some ⟨g, 0, none⟩), .string k] w fun x w' => GoR w w' g b N l armed (wrP lost armed left) (fun l' => ∃ e : Fi, e.k = k ∧ l' = applyF e true l) x := by
  have HT := there_any k hkm w h
  rw [hf] at HT
  simp only [if_true] at HT
  have hwc := wr_cases lost armed left
  have hgt := h.get k
  have hgk := (h.find hf).2
  have HWF := fun v (h : IsDk v g b N l lost armed left) => write_any v h
  obtain ⟨q, hq⟩ : ∃ q, wrP lost armed left = q := ⟨_, rfl⟩
  rw [hq] at HWF hwc ⊢
  clear hq
  obtain ⟨code, now, lost', left'⟩ := q
  simp only at HWF hwc ⊢
  obtain ⟨f, hfe⟩ : ∃ f, getF l k = f := ⟨_, rfl⟩
  rw [hfe] at hgt hgk
  try rw [hfe]
  have HF := Lib.hid hfe
  clear hfe
  obtain ⟨fk, fb, fA, fn, fc, fs⟩ := f
  simp only at hgt hgk
  try simp only
  have hln := hgt.1.length
  have HGT := Lib.hid hgt
  have HW0 := Lib.hid HWF
  have H := Lib.hid h
  clear h hgt HWF
  rcases hwc with rfl | rfl
  ·
    go_enter Tryz.func86, Tryz.ntmps86
    go_upto_region 6 with (first | (((with_reducible refine (HT).mono ?_); rintro z w1 ⟨rfl, hb1⟩); (have HW := HW0.out w1 (H.out.step hb1))) | (((with_reducible refine (HW).mono ?_); rintro z w2 ⟨rfl, h2, hG2⟩)))
    have hm2 := ((Mod.refl (fun i _ => i = g ∨ i = b) w).below hb1).trans (grown_mod' (b := b) hG2)
    obtain ⟨⟨x0, x1, x2, x3⟩, xf⟩ := at4 h2.at_
    obtain ⟨w3, hrun, hd3, hG3⟩ := h2.drop ⟨fk, fb, fA, fn, fc, fs⟩ (by rw [hgk]; exact hkm) 0
    have hm3 := hm2.grown hG3 (fun i o _ _ e => .inr (Option.some.inj e).symm)
    rw [hgk] at hrun
    have HD := Lib.hid hd3
    have HM := Lib.hid hm3
    clear hd3 hm3 hm2 hG3 h2 HT
    go_wp2_with fail
    go_ret
    exact ⟨rfl, HM.out, fun e => absurd rfl e, fun _ => ⟨_, ⟨_, hgk, rfl⟩, HD.out.more (Nat.le_succ _)⟩⟩
  ·
    go_enter Tryz.func86, Tryz.ntmps86
    go_wp2_with (first | (((with_reducible refine (HT).mono ?_); rintro z w1 ⟨rfl, hb1⟩); (have HW := HW0.out w1 (H.out.step hb1))) | (((with_reducible refine (HW).mono ?_); rintro z w2 ⟨rfl, h2, hG2⟩)))
    have HM := Lib.hid (((Mod.refl (fun i _ => i = g ∨ i = b) w).below hb1).trans (grown_mod' (b := b) hG2))
    have HD := Lib.hid h2
    go_ret
    exact ⟨rfl, HM.out, fun _ => HD.out, fun e => absurd e (show ¬ (12 : Int) = 0 by decide)⟩
set_option maxRecDepth 100000 in
set_option maxHeartbeats 2000000 in
theorem sync_go (k : ByteArray) (hkm : k.size ≤ maxLen) (w : World) (h : IsDk w g b N l lost armed left) (hf : (findF l k).isSome = true) (hN : N < 1000000) :
    Calls Tryz.prog 80 #[.pointer (some ⟨g, 0, none⟩), .string k] w fun x w' => GoR w w' g b N l armed (wrP lost armed left) (fun l' => ∃ P n c, l' = applyF ⟨k, (getF l k).b, P, n, c, ((getF l k).b.length : Int)⟩ false l) x := by
  have HT := there_any k hkm w h
  rw [hf] at HT
  simp only [if_true] at HT
  have hwc := wr_cases lost armed left
  have hgt := h.get k
  have hgk := (h.find hf).2
  have HWF := fun v (h : IsDk v g b N l lost armed left) => write_any v h
  obtain ⟨q, hq⟩ : ∃ q, wrP lost armed left = q := ⟨_, rfl⟩
  rw [hq] at HWF hwc ⊢
  clear hq
  obtain ⟨code, now, lost', left'⟩ := q
  simp only at HWF hwc ⊢
  obtain ⟨f, hfe⟩ : ∃ f, getF l k = f := ⟨_, rfl⟩
  rw [hfe] at hgt hgk
  try rw [hfe]
  have HF := Lib.hid hfe
  clear hfe
  obtain ⟨fk, fb, fA, fn, fc, fs⟩ := f
  simp only at hgt hgk
  try simp only
  have hln := hgt.1.length
  have HGT := Lib.hid hgt
  have HW0 := Lib.hid HWF
  have H := Lib.hid h
  clear h hgt HWF
  rcases hwc with rfl | rfl
  rotate_left
  ·
    go_enter Tryz.func80, Tryz.ntmps80
    skip
    go_wp2_with (first | (((with_reducible refine (HT).mono ?_); rintro z w1 ⟨rfl, hb1⟩); (have HW := HW0.out w1 (H.out.step hb1))) | (((with_reducible refine (HW).mono ?_); rintro z w2 ⟨rfl, h2, hG2⟩)))
    have HM := Lib.hid (((Mod.refl (fun i _ => i = g ∨ i = b) w).below hb1).trans (grown_mod' (b := b) hG2))
    have HD := Lib.hid h2
    go_ret
    exact ⟨rfl, HM.out, fun _ => HD.out, fun e => absurd e (show ¬ (12 : Int) = 0 by decide)⟩
  ·
    go_enter Tryz.func80, Tryz.ntmps80
    go_upto_region 6 with (first | (((with_reducible refine (HT).mono ?_); rintro z w1 ⟨rfl, hb1⟩); (have HW := HW0.out w1 (H.out.step hb1))) | (((with_reducible refine (HW).mono ?_); rintro z w2 ⟨rfl, h2, hG2⟩)))
    have hm2 := ((Mod.refl (fun i _ => i = g ∨ i = b) w).below hb1).trans (grown_mod' (b := b) hG2)
    have hlk := h2.mp.look1 hkm
    have hfo := (h2.get k).1
    rw [HF.out] at hlk hfo
    unfold Fi.val Fi.addr at hlk
    unfold Fi.addr at hfo
    simp only at hlk hfo
    obtain ⟨fA', hfA⟩ : ∃ fA' : Option Addr, Option.map (fun p : Nat × Nat => (⟨p.1, p.2, none⟩ : Addr)) fA = fA' := ⟨_, rfl⟩
    rw [hfA] at hlk hfo
    have HFA := Lib.hid hfA
    obtain ⟨⟨x0, x1, x2, x3⟩, xf⟩ := at4 h2.at_
    clear HT hG2 hfA
    go_upto_region 7 with fail
    obtain ⟨h9, hb3⟩ := one_at w2 96 [.slice fA' fn fc, .int .i64 fs]
    have H3 := Lib.hid (h2.step hb3)
    have hm3 := hm2.below hb3
    have hfo3 := own_below (show World.ownsRow _ _ _ _ _ _ _ from hfo) hb3
    clear h2 hm2 hfo hb3 x0 x1 x2 x3 xf hlk
    generalize World.alloc w2 _ = w3 at *
    generalize w2.heap.size = g9 at *
    refine region_any (by kernel_rfl) ?_
    change wpAny _ _ _ _ _ _ _ (World.drew _)
    replace h9 := h9.drew
    have h1 := H3.out.drew
    have HM := Lib.hid hm3.drew
    have hfo4 : OwnB w3.drew 0 fA' fn fc fb := hfo3
    clear hm3 hfo3 H3
    generalize World.drew _ = w4 at *
    obtain ⟨⟨x0, x1, x2, x3⟩, xf⟩ := at4 h1.at_
    obtain ⟨⟨y0, y1⟩, yf⟩ := at2 h9
    have l1 := h1.lt.1
    have l9 := h9.lt
    obtain ⟨w6, hrun, hd6, hG6⟩ := h1.store ⟨k, fb, fA, fn, fc, (fb.length : Int)⟩ hkm (lt_maxN hN) ⟨(by show OwnB w4 0 (Fi.addr ⟨k, fb, fA, fn, fc, _⟩) fn fc fb; unfold Fi.addr; rw [HFA.out]; exact hfo4), by show (0 : Int) ≤ (fb.length : Int); omega, Int.le_refl _⟩
    unfold Fi.val Fi.addr at hrun
    dsimp only at hrun
    rw [HFA.out, hln] at hrun
    have HR := Lib.hid hrun
    clear hrun
    refine stage 11 ?_
    refine tag [0,1,2,3,4,5,6,7,8,9,10] ?_
    iterate 11 (
      refine sR (v := ?_) rfl (by kernel_rfl) (fun _ _ _ h => h) (Or.inl ⟨by kernel_rfl, ?_⟩) ?_
      rotate_left
      · (intro wS hwS; obtain ⟨hcS, hfS, hhS⟩ := bcell hwS; go_simp; try (first | (with_reducible rfl) | rw [if_pos (by omega)] | rw [if_neg (by omega)]))
      try simp only [PT])
    refine tagN ?_
    have hrun := HR.out
    refine stage_end (by kernel_rfl) rfl (fun K hK => ?_)
    go_simp
    refine hK.out _ _ ?_
    clear hK K
    try simp only [PT]
    first | refine wpAnyT_done (by kernel_rfl) ?_ _ | refine wpAny_done (by kernel_rfl) ?_ _
    have hm6 := HM.out.grown hG6 (fun i o _ _ e => .inr (Option.some.inj e).symm)
    have HD := Lib.hid hd6
    have HM6 := Lib.hid hm6
    clear x0 x1 x2 x3 xf y0 y1 yf l1 l9 h1 h9 hfo4 hrun hG6 HM hd6 hm6
    go_wp2_with fail
    go_ret
    exact ⟨rfl, HM6.out, fun e => absurd rfl e, fun _ => ⟨_, ⟨_, _, _, rfl⟩, HD.out⟩⟩
set_option maxRecDepth 100000 in
set_option maxHeartbeats 2000000 in
theorem cut_arg (k : ByteArray) (m : Int) (hkm : k.size ≤ maxLen) (w : World) (h : IsDk w g b N l lost armed left) (hf : (findF l k).isSome = true) (hm : m < 0 ∨ ((getF l k).b.length : Int) < m) :
    Calls Tryz.prog 87 #[.pointer (some ⟨g, 0, none⟩), .string k, .int .i64 m] w fun x w' => x = .returned (.int .i64 1) ∧ IsDk w' g b N l lost armed left ∧ Below w.heap.size w w' := by
  have HT := there_any k hkm w h
  rw [hf] at HT
  simp only [if_true] at HT
  obtain ⟨f, hfe⟩ : ∃ f, getF l k = f := ⟨_, rfl⟩
  have hln := (h.get k).1.length
  rw [hfe] at hm hln
  have HF := Lib.hid hfe
  clear hfe
  obtain ⟨fk, fb, fA, fn, fc, fs⟩ := f
  simp only at hm hln
  rw [hln] at hm
  have H := Lib.hid h
  clear h
  go_enter Tryz.func87, Tryz.ntmps87
  go_upto_region 4 with (((with_reducible refine (HT).mono ?_); rintro z w1 ⟨rfl, hb1⟩))
  have h1 := H.out.step hb1
  have hlk := h1.mp.look1 hkm
  have hfo := (h1.get k).1
  rw [HF.out] at hlk hfo
  unfold Fi.val at hlk
  simp only at hlk hfo
  have hf0 := fun w => field0 (Fi.addr ⟨fk, fb, fA, fn, fc, fs⟩) fn fc fs w
  obtain ⟨fA', hfA⟩ : ∃ fA' : Option Addr, Fi.addr ⟨fk, fb, fA, fn, fc, fs⟩ = fA' := ⟨_, rfl⟩
  rw [hfA] at hlk hfo
  simp only [hfA] at hf0
  clear hfA
  obtain ⟨⟨x0, x1, x2, x3⟩, xf⟩ := at4 h1.at_
  clear hfo HT
  by_cases hm0 : m < 0
  ·
    have hd0 : decide (m < 0) = true := decide_eq_true hm0
    have H1 := Lib.hid h1
    clear hm h1
    go_wp2_with fail
    go_ret
    exact ⟨rfl, H1.out, hb1⟩
  ·
    have hd0 : decide (m < 0) = false := decide_eq_false hm0
    have hm1 : (fn : Int) < m := by omega
    have hd1 : decide ((fn : Int) < m) = true := decide_eq_true hm1
    have H1 := Lib.hid h1
    clear hm h1
    go_wp2_with fail
    go_ret
    exact ⟨rfl, H1.out, hb1⟩
set_option maxRecDepth 100000 in
set_option maxHeartbeats 2000000 in
theorem cut_go (k : ByteArray) (m : Nat) (hkm : k.size ≤ maxLen) (w : World) (h : IsDk w g b N l lost armed left) (hf : (findF l k).isSome = true) (hN : N < 1000000) (hm : m ≤ (getF l k).b.length) (hsz : (getF l k).b.length ≤ 100000000) :
    Calls Tryz.prog 87 #[.pointer (some ⟨g, 0, none⟩), .string k, .int .i64 (m : Int)] w fun x w' => GoR w w' g b N l armed (wrP lost armed left) (fun l' => ∃ P n c, l' = applyF ⟨k, (getF l k).b.take m, P, n, c, (m : Int)⟩ false l) x := by
  have HT := there_any k hkm w h
  rw [hf] at HT
  simp only [if_true] at HT
  have hwc := wr_cases lost armed left
  have hgt := h.get k
  have hgk := (h.find hf).2
  have HWF := fun v (h : IsDk v g b N l lost armed left) => write_any v h
  obtain ⟨q, hq⟩ : ∃ q, wrP lost armed left = q := ⟨_, rfl⟩
  rw [hq] at HWF hwc ⊢
  clear hq
  obtain ⟨code, now, lost', left'⟩ := q
  simp only at HWF hwc ⊢
  obtain ⟨f, hfe⟩ : ∃ f, getF l k = f := ⟨_, rfl⟩
  rw [hfe] at hgt hgk
  try rw [hfe]
  have HF := Lib.hid hfe
  clear hfe
  obtain ⟨fk, fb, fA, fn, fc, fs⟩ := f
  simp only at hgt hgk
  try simp only
  have hln := hgt.1.length
  have HGT := Lib.hid hgt
  have HW0 := Lib.hid HWF
  have H := Lib.hid h
  clear h hgt HWF
  rw [HF.out] at hm hsz
  simp only at hm hsz
  rw [hln] at hm hsz
  have hd0 : decide ((m : Int) < 0) = false := decide_eq_false (by omega)
  have hd1 : decide ((fn : Int) < (m : Int)) = false := decide_eq_false (by omega)
  have hd2 : decide (fn < m) = false := decide_eq_false (by omega)
  rcases hwc with rfl | rfl
  rotate_left
  ·
    go_enter Tryz.func87, Tryz.ntmps87
    go_upto_region 4 with (((with_reducible refine (HT).mono ?_); rintro z w1 ⟨rfl, hb1⟩))
    have h1 := H.out.step hb1
    have hlk := h1.mp.look1 hkm
    have hfo := (h1.get k).1
    rw [HF.out] at hlk hfo
    unfold Fi.val at hlk
    simp only at hlk hfo
    have hf0 := fun w => field0 (Fi.addr ⟨fk, fb, fA, fn, fc, fs⟩) fn fc fs w
    obtain ⟨fA', hfA⟩ : ∃ fA' : Option Addr, Fi.addr ⟨fk, fb, fA, fn, fc, fs⟩ = fA' := ⟨_, rfl⟩
    rw [hfA] at hlk hfo
    simp only [hfA] at hf0
    clear hfA
    obtain ⟨⟨x0, x1, x2, x3⟩, xf⟩ := at4 h1.at_
    have HW := HW0.out w1 h1
    clear h1 hfo HT
    go_wp2_with (((with_reducible refine (HW).mono ?_); rintro z w2 ⟨rfl, h2, hG2⟩))
    have HM := Lib.hid (((Mod.refl (fun i _ => i = g ∨ i = b) w).below hb1).trans (grown_mod' (b := b) hG2))
    have HD := Lib.hid h2
    go_ret
    exact ⟨rfl, HM.out, fun _ => HD.out, fun e => absurd e (show ¬ (12 : Int) = 0 by decide)⟩
  ·
    go_enter Tryz.func87, Tryz.ntmps87
    go_upto_region 4 with (((with_reducible refine (HT).mono ?_); rintro z w1 ⟨rfl, hb1⟩))
    have h1 := H.out.step hb1
    have hlk := h1.mp.look1 hkm
    have hfo := (h1.get k).1
    rw [HF.out] at hlk hfo
    unfold Fi.val at hlk
    simp only at hlk hfo
    have hf0 := fun w => field0 (Fi.addr ⟨fk, fb, fA, fn, fc, fs⟩) fn fc fs w
    obtain ⟨fA', hfA⟩ : ∃ fA' : Option Addr, Fi.addr ⟨fk, fb, fA, fn, fc, fs⟩ = fA' := ⟨_, rfl⟩
    rw [hfA] at hlk hfo
    simp only [hfA] at hf0
    clear hfA
    obtain ⟨⟨x0, x1, x2, x3⟩, xf⟩ := at4 h1.at_
    have HW := HW0.out w1 h1
    have H1 := Lib.hid h1
    clear h1 HT
    go_upto_region 9 with (((with_reducible refine (HW).mono ?_); rintro z w2 ⟨rfl, h2, hG2⟩))
    have hm2 := ((Mod.refl (fun i _ => i = g ∨ i = b) w).below hb1).trans (grown_mod' (b := b) hG2)
    have hfo2 : OwnB w2 0 fA' fn fc fb := own_mod (show World.ownsRow _ _ _ _ _ _ _ from hfo) (grown_mod hG2) (fun i o ho _ hit e => isT_at H1.out.at_ ho hit (by decide) (Option.some.inj e).symm)
    clear x0 x1 x2 x3 xf hlk hf0 hfo H1 HW hG2 hb1
    refine region_any (by kernel_rfl) ?_
    change wpAny _ _ _ _ _ _ _ (World.drew _)
    have h1 := h2.drew
    have HM := Lib.hid hm2.drew
    have hfo3 : OwnB w2.drew 0 fA' fn fc fb := hfo2
    clear hm2 hfo2 h2
    generalize World.drew _ = w4 at *
    have hrt := RdB.take (OwnB.rd hfo3) (k := m) (c' := fc) hm (by have := (OwnB.rd hfo3).le; omega) (Nat.le_refl _)
    have hle := (OwnB.rd hfo3).le
    have hmx := (OwnB.rd hfo3).max
    unfold maxLen at hmx
    have hmc : m ≤ fc := by omega
    obtain ⟨⟨x0, x1, x2, x3⟩, xf⟩ := at4 h1.at_
    have l1 := h1.lt.1
    refine stage 11 ?_
    refine tag [0,1,2,3,4,5,6,7,9] ?_
    iterate 9 (
      refine sR (v := ?_) rfl (by kernel_rfl) (fun _ _ _ h => h) (Or.inl ⟨by kernel_rfl, ?_⟩) ?_
      rotate_left
      · (intro wS hwS; obtain ⟨hcS, hfS, hhS⟩ := bcell hwS; go_simp; try (first | (with_reducible rfl) | rw [if_pos (by omega)] | rw [if_neg (by omega)]))
      try simp only [PT])
    refine tagN ?_
    refine stage_one 8 (by kernel_rfl) rfl (by kernel_rfl) (fun K hK => ?_)
    go_simp
    refine (clone_any fA' m fc (fb.take m) w4 hrt (by omega)).mono ?_
    rintro z w5 ⟨A5, c5, rfl, hown5, hb5⟩
    refine hK.out _ _ (hb5) ?_
    clear hK K
    try simp only [PT]
    replace h1 := h1.step hb5
    have HM := Lib.hid (HM.out.below hb5)
    obtain ⟨P, hP⟩ := own_pair hown5
    subst hP
    clear hb5 x0 x1 x2 x3 xf l1 hfo3 hrt
    obtain ⟨⟨x0, x1, x2, x3⟩, xf⟩ := at4 h1.at_
    have l1 := h1.lt.1
    obtain ⟨w6, hrun, hd6, hG6⟩ := h1.store ⟨k, fb.take m, P, m, c5, (m : Int)⟩ hkm (lt_maxN hN) ⟨own_lower (show World.ownsRow _ _ _ _ _ _ _ from hown5) (Nat.zero_le _), by show (0 : Int) ≤ (m : Int); omega, by show (m : Int) ≤ (((fb.take m).length : Nat) : Int); rw [List.length_take]; omega⟩
    unfold Fi.val Fi.addr at hrun
    dsimp only at hrun
    have HR := Lib.hid hrun
    clear hrun
    refine tag [10] ?_
    refine sR (v := ?_) rfl (by kernel_rfl) (fun _ _ _ h => h) (Or.inl ⟨by kernel_rfl, ?_⟩) ?_
    rotate_left
    · (intro wS hwS; obtain ⟨hcS, hfS, hhS⟩ := bcell hwS; go_simp; try (first | (with_reducible rfl) | rw [if_pos (by omega)] | rw [if_neg (by omega)]))
    try simp only [PT]
    refine tagN ?_
    have hrun := HR.out
    refine stage_end (by kernel_rfl) rfl (fun K hK => ?_)
    go_simp
    refine hK.out _ _ ?_
    clear hK K
    try simp only [PT]
    first | refine wpAnyT_done (by kernel_rfl) ?_ _ | refine wpAny_done (by kernel_rfl) ?_ _
    have hm6 := HM.out.grown hG6 (fun i o _ _ e => .inr (Option.some.inj e).symm)
    have HD := Lib.hid hd6
    have HM6 := Lib.hid hm6
    clear x0 x1 x2 x3 xf l1 h1 hown5 hrun hG6 HM hd6 hm6
    go_wp2_with fail
    go_ret
    exact ⟨rfl, HM6.out, fun e => absurd rfl e, fun _ => ⟨_, ⟨_, _, _, rfl⟩, HD.out⟩⟩
set_option maxRecDepth 100000 in
set_option maxHeartbeats 2000000 in
theorem rename_arg (k to : ByteArray) (hkm : k.size ≤ maxLen) (w : World) (h : IsDk w g b N l lost armed left) (hf : (findF l k).isSome = true) (ht : to.size = 0 ∨ to = k) :
    Calls Tryz.prog 82 #[.pointer (some ⟨g, 0, none⟩), .string k, .string to] w fun x w' => x = .returned (.int .i64 1) ∧ IsDk w' g b N l lost armed left ∧ Below w.heap.size w w' := by
  have HT := there_any k hkm w h
  rw [hf] at HT
  simp only [if_true] at HT
  have H := Lib.hid h
  clear h
  have he := emptyS_iff to
  have hte : (to.toList == k.toList) = decide (to = k) := ba_beq to k
  by_cases h0 : to.size = 0
  ·
    rw [decide_eq_false (by omega)] at he
    clear ht hte
    go_enter Tryz.func82, Tryz.ntmps82
    go_wp2_with (((with_reducible refine (HT).mono ?_); rintro z w1 ⟨rfl, hb1⟩))
    go_ret
    exact ⟨rfl, H.out.step hb1, hb1⟩
  ·
    rw [decide_eq_true (by omega)] at he
    obtain rfl : to = k := ht.resolve_left h0
    clear ht hte
    go_enter Tryz.func82, Tryz.ntmps82
    go_wp2_with (((with_reducible refine (HT).mono ?_); rintro z w1 ⟨rfl, hb1⟩))
    go_ret
    exact ⟨rfl, H.out.step hb1, hb1⟩
set_option maxRecDepth 100000 in
set_option maxHeartbeats 2000000 in
theorem rename_go (k to : ByteArray) (hkm : k.size ≤ maxLen) (htm : to.size ≤ maxLen) (w : World) (h : IsDk w g b N l lost armed left) (hf : (findF l k).isSome = true) (hN : N < 1000000) (ht : 1 ≤ to.size) (htk : to ≠ k) :
    Calls Tryz.prog 82 #[.pointer (some ⟨g, 0, none⟩), .string k, .string to] w fun x w' => GoR w w' g b N l armed (wrP lost armed left) (fun l' => ∃ (e : Fi), e.k = k ∧ ∃ (P : Option (Nat × Nat)) (n c : Nat), l' = applyF e true (applyF ⟨to, (getF l k).b, P, n, c, (getF l k).s⟩ false l)) x := by
  have HT := there_any k hkm w h
  rw [hf] at HT
  simp only [if_true] at HT
  have hwc := wr_cases lost armed left
  have hgt := h.get k
  have hgk := (h.find hf).2
  have HWF := fun v (h : IsDk v g b N l lost armed left) => write_any v h
  obtain ⟨q, hq⟩ : ∃ q, wrP lost armed left = q := ⟨_, rfl⟩
  rw [hq] at HWF hwc ⊢
  clear hq
  obtain ⟨code, now, lost', left'⟩ := q
  simp only at HWF hwc ⊢
  obtain ⟨f, hfe⟩ : ∃ f, getF l k = f := ⟨_, rfl⟩
  rw [hfe] at hgt hgk
  try rw [hfe]
  have HF := Lib.hid hfe
  clear hfe
  obtain ⟨fk, fb, fA, fn, fc, fs⟩ := f
  simp only at hgt hgk
  try simp only
  have hln := hgt.1.length
  have HGT := Lib.hid hgt
  have HW0 := Lib.hid HWF
  have H := Lib.hid h
  clear h hgt HWF
  have he := emptyS_iff to
  have hte : (to.toList == k.toList) = decide (to = k) := ba_beq to k
  rw [decide_eq_true ht] at he
  rw [decide_eq_false htk] at hte
  rcases hwc with rfl | rfl
  rotate_left
  ·
    go_enter Tryz.func82, Tryz.ntmps82
    go_wp2_with (first | (((with_reducible refine (HT).mono ?_); rintro z w1 ⟨rfl, hb1⟩); (have HW := HW0.out w1 (H.out.step hb1))) | (((with_reducible refine (HW).mono ?_); rintro z w2 ⟨rfl, h2, hG2⟩)))
    have HM := Lib.hid (((Mod.refl (fun i _ => i = g ∨ i = b) w).below hb1).trans (grown_mod' (b := b) hG2))
    have HD := Lib.hid h2
    go_ret
    exact ⟨rfl, HM.out, fun _ => HD.out, fun e => absurd e (show ¬ (12 : Int) = 0 by decide)⟩
  ·
    go_enter Tryz.func82, Tryz.ntmps82
    go_upto_region 8 with (first | (((with_reducible refine (HT).mono ?_); rintro z w1 ⟨rfl, hb1⟩); (have HW := HW0.out w1 (H.out.step hb1))) | (((with_reducible refine (HW).mono ?_); rintro z w2 ⟨rfl, h2, hG2⟩)))
    have hm2 := ((Mod.refl (fun i _ => i = g ∨ i = b) w).below hb1).trans (grown_mod' (b := b) hG2)
    clear HT hG2 hb1 HW
    refine region_any (by kernel_rfl) ?_
    change wpAny _ _ _ _ _ _ _ (World.drew _)
    have h1 := h2.drew
    have HM := Lib.hid hm2.drew
    clear hm2 h2
    generalize World.drew _ = w4 at *
    have hlk : ∀ w', Below w4.heap.size w4 w' → _ := fun w' hb => (h1.step hb).mp.look1 hkm
    have hfo := h1.get k
    rw [HF.out] at hlk hfo
    unfold Fi.val Fi.addr at hlk
    simp only at hlk hfo
    obtain ⟨⟨x0, x1, x2, x3⟩, xf⟩ := at4 h1.at_
    have l1 := h1.lt.1
    obtain ⟨w6, hrun, hd6, hG6⟩ := h1.store ⟨to, fb, fA, fn, fc, fs⟩ htm (lt_maxN hN) hfo
    unfold Fi.val Fi.addr at hrun
    dsimp only at hrun
    have HR := Lib.hid hrun
    clear hrun
    refine stage 11 ?_
    refine tag [0,1,2,3,4,5,6,7,8,9,10] ?_
    iterate 11 (
      refine sR (v := ?_) rfl (by kernel_rfl) (fun _ _ _ h => h) (Or.inl ⟨by kernel_rfl, ?_⟩) ?_
      rotate_left
      · (intro wS hwS; obtain ⟨hcS, hfS, hhS⟩ := bcell hwS; go_simp; try (first | (with_reducible rfl) | rw [if_pos (by omega)] | rw [if_neg (by omega)]))
      try simp only [PT])
    refine tagN ?_
    have hrun := HR.out
    refine stage_end (by kernel_rfl) rfl (fun K hK => ?_)
    go_simp
    refine hK.out _ _ ?_
    clear hK K
    try simp only [PT]
    first | refine wpAnyT_done (by kernel_rfl) ?_ _ | refine wpAny_done (by kernel_rfl) ?_ _
    have hm6 := HM.out.grown hG6 (fun i o _ _ e => .inr (Option.some.inj e).symm)
    clear x0 x1 x2 x3 xf l1 h1 hrun hG6 HM hlk HR
    obtain ⟨⟨x0, x1, x2, x3⟩, xf⟩ := at4 hd6.at_
    obtain ⟨w7, hrun, hd7, hG7⟩ := hd6.drop ⟨fk, fb, fA, fn, fc, fs⟩ (by rw [hgk]; exact hkm) 0
    have hm7 := hm6.grown hG7 (fun i o _ _ e => .inr (Option.some.inj e).symm)
    rw [hgk] at hrun
    have HD := Lib.hid hd7
    have HM := Lib.hid hm7
    clear hd6 hd7 hm6 hm7 hG7
    go_wp2_with fail
    go_ret
    exact ⟨rfl, HM.out, fun e => absurd rfl e, fun _ => ⟨_, ⟨_, hgk, _, _, _, rfl⟩, HD.out⟩⟩
end
end Go.Proofs.YtnkjekkdndjfaaaGreat
namespace Go.Proofs.YtnkjekkdndjfaaaGreat
set_option linter.unusedVariables false
set_option linter.unusedSimpArgs false
open Go.RowKit Go.Maps Go.Sort
theorem fiR_some {v : Value} {y : DataW Unit × List MemPlace} (h : fiR v = some y) : ∃ x : Fi, v = x.val := by
  unfold fiR at h
  split at h
  · rename_i cs
    split at h
    · rename_i n c s hcs
      exact ⟨⟨⟨#[]⟩, [], none, n, c, s⟩, congrArg Value.agg (Array.toList_inj.1 (by rw [hcs]; rfl))⟩
    · rename_i g off n c s hcs
      exact ⟨⟨⟨#[]⟩, [], some (g, off), n, c, s⟩, congrArg Value.agg (Array.toList_inj.1 (by rw [hcs]; rfl))⟩
    · cases h
  · cases h
theorem ascF_keys {l : List Fi} (h : AscF l) : (l.map fun x => x.k.toList).Pairwise fun a b => a < b := by
  rw [List.pairwise_map]
  exact h.imp fun hab => (kless_iff _ _).1 hab
theorem RepF.sorted {w : World} {b N : Nat} {D : DataW Unit} {l : List Fi} (h : RepF D l) (ho : w.ownsMap Tryz.prog 9 fiR b N D) {ss : List (List UInt8)} (hs : ss.Perm (strKeys D)) : ss.mergeSort leB = l.map fun x => x.k.toList := by
  have hasc := ascF_keys h.asc
  have hp : (l.map fun x => x.k.toList).Perm (strKeys D) := by
    obtain ⟨es, he, hp⟩ := h.tidy
    have hks := ho.keysOf
    obtain ⟨es', he', hk⟩ := hks
    rw [he] at he'
    injection he' with he'
    subst he'
    rw [he]
    refine perm_strKeys hp (fun p hp' => ?_) (hasc.imp fun hab e => by rw [e] at hab; exact List.lt_irrefl _ hab) fun x => ?_
    · obtain ⟨key, hkey⟩ := hk p hp'
      obtain ⟨x, _, hx, _⟩ := Maps.keyOf_str Tryz.underlying9 hkey
      exact ⟨x, hx⟩
    · have hh := h.has ⟨x.toArray⟩
      rw [Lib.toList_data] at hh
      simp only at hh
      rw [he] at hh
      rw [hh]
      unfold findF
      rw [List.find?_isSome, List.mem_map]
      constructor
      · rintro ⟨y, hy, e⟩
        refine ⟨y, hy, ?_⟩
        rw [decide_eq_true_iff]
        apply ba_ext
        rw [e, Lib.toList_data]
      · rintro ⟨y, hy, e⟩
        rw [decide_eq_true_iff] at e
        exact ⟨y, hy, by rw [e, Lib.toList_data]⟩
  rw [mergeSort_of_perm (hs.trans hp.symm)]
  refine List.mergeSort_of_pairwise (hasc.imp fun hab => ?_)
  simp only [leB, decide_eq_true_eq]
  exact List.le_of_lt hab
theorem info_string : (Tryz.prog.info? 9).map (fun i => (i.zero, i.size, i.bytes)) = some (some (Value.string ⟨#[]⟩), 1, 16) := by kernel_rfl
def OwnTx (w : World) (B : Nat) (A : Option Addr) (n c : Nat) (ss : List (List UInt8)) : Prop := w.ownsRow B 9 1 (.slice A n c) n (ss.map encStr)
theorem encStr_one (x : List UInt8) : ∀ u ∈ [encStr x], u.oneCell' = true := by intro u hu; simp at hu; subst hu; rfl
/-- append(s, x) of texts -/
theorem app_tx {ops : Array Oper} {rest : List Oper} {o : Oper} {a : Act} {w : World} {Q : Exit → Act → World → Prop} (hgd : o.guard = none) (s x : Operand)
    (ho : o.op = .call { callee := .builtin .append, args := #[s, x], argTypes := #[82, 82] })
    {base : Nat} {A' : Option Addr} {n c' : Nat} {ss : List (List UInt8)} (hs : a.eval s = .slice A' n c') (hown : OwnTx w base A' n c' ss)
    {B : Nat} {A : Option Addr} {c : Nat} (y : List UInt8) (hx : a.eval x = .slice A 1 c) (hr : Rd w B 1 A 1 c [encStr y]) (hbase : base ≤ w.heap.size) (hsz : n ≤ 1000000)
    (h : ∀ A2 c2 w', OwnTx w' base A2 (n + 1) c2 (ss ++ [y]) → w.grownBy w' (Value.slice A' n c').ownBlock → Below base w w' → wpList Tryz.prog ops Q rest (a.put o.dst (.slice A2 (n + 1) c2)) w') : wpList Tryz.prog ops Q (o :: rest) a w := by
  obtain ⟨i0, hi0, hz0, hz1, hz2⟩ := info_parts info_string
  refine wpList_app w hgd s x _ ho base 9 i0 _ 1 16 Tryz.underlying82 hi0 hz0 hz1 hz2 rfl (by omega) A' n c' _ hs hown B A 1 c _ hx hr (encStr_one y) ?_ (by omega) (by simp only [maxLen]; omega) hbase
  intro A2 c2 w' h1 h2 _ _
  exact h A2 c2 w' (by unfold OwnTx; rw [List.map_append]; exact h1) h2 (below_of_app hown h2 hbase)
section
variable {g b N : Nat} {l : List Fi} {lost armed : Bool} {left : Int}
theorem names_nil (w : World) : Calls Tryz.prog 31 #[.pointer none] w fun x w' => x = .returned (.slice none 0 0) ∧ w = w' := by
  go_enter Tryz.func31, Tryz.ntmps31
  go_wp2_with fail
  go_ret
  exact ⟨rfl, rfl⟩
def namesL (l : List Fi) : List Value := l.map fun x => .string x.k
set_option maxRecDepth 100000 in
set_option maxHeartbeats 2000000 in
theorem names_any (w : World) (h : IsDk w g b N l lost armed left) (hN : N ≤ 1000000) :
    Calls Tryz.prog 31 #[.pointer (some ⟨g, 0, none⟩)] w fun x w' => ∃ A c, x = .returned (.slice A l.length c) ∧ w'.ownsRow w.heap.size 9 1 (.slice A l.length c) l.length (namesL l) ∧ Below w.heap.size w w' := by
  obtain ⟨⟨x0, x1, x2, x3⟩, xf⟩ := at4 h.at_
  obtain ⟨D, hown, hrep⟩ := h.mp
  have hbl := hown.lt
  have hsize : Maps.size D ≤ 1000000 := Nat.le_trans hown.size_le hN
  clear h
  go_enter Tryz.func31, Tryz.ntmps31
  go_wp2_with (first
    | (at_range; refine wpList_range_own _ rfl _ 90 rfl 9 96 keyed6 Tryz.underlying90 _ b N _ rfl hown ?_; intro w0 hrg0 hg0 hs0)
    | go_in)
  go_frame
  go_loopw [3] (fun v wr => ∃ (left : Lit → Bool) (cnt : Nat) (ss : List (List UInt8)) (A1 : Option Addr) (c1 : Nat), v = .slice A1 ss.length c1 ∧ wr.ranges Tryz.prog 9 fiR b w.heap.size N D left cnt ∧ ss.length + cnt ≤ Maps.size D ∧
      OwnTx wr w.heap.size A1 ss.length c1 ss ∧ Collected D left ss ∧ Below w.heap.size w wr) (fun _ wr => wr.rangeLeft b w.heap.size)
  case atStart =>
    exact ⟨_, _, [], none, 0, rfl, hrg0, by simp, World.ownsRow_nil _ _ _ _, Collected.start D, (Below.refl _ _).grown hg0 (Nat.le_refl _) (fun j hj => by cases hj)⟩
  case round =>
    clear hrg0 hg0 hs0
    obtain ⟨left, cnt, ss, A1, c1, rfl, hrg, hcs, hrow, hC, hnx⟩ := hrel
    go_wp2_with (first
      | (at_next; refine wpList_next_ranges _ rfl _ rfl 9 keyed6 fiR encStr Fi.val (fun key kl hk => by obtain ⟨x, hx, _⟩ := Maps.keyOf_str Tryz.underlying9 hk; exact ⟨x, hx⟩) (fun v y hv => fiR_some hv) b w.heap.size N _ _ _ rfl hrg ?_ ?_)
      | go_in)
    · intro hc0 hl0
      have hperm := hC.perm hown keyed6 Tryz.underlying9 hl0
      have hso := hrep.sorted hown hperm
      have hlen : ss.length = l.length := by
        have := congrArg List.length hso
        rw [List.length_mergeSort, List.length_map] at this
        exact this
      have hss : ss.length ≤ 1000000 := by omega
      have hrow0 : OwnTx wr w.heap.size A1 ss.length c1 ss := hrow
      unfold OwnTx at hrow
      rcases hrow.2 with ⟨hnil, h0⟩ | ⟨gr, cap, cur, e, hbase, hb, h1, h2, h3, h4⟩
      · injection hnil with e1 e2 e3
        have hl0' : l = [] := List.eq_nil_of_length_eq_zero (by omega)
        subst hl0'
        rw [hlen, e1, e3] at *
        have HS := sort_none none 0 wr
        have HB := Lib.hid hnx
        clear hrow hrow0 hC hrg hnx hso hperm
        simp only [List.length_nil] at *
        go_wp2_with (((with_reducible refine calls_id ?_); refine HS.mono ?_; rintro z w2 ⟨rfl, rfl⟩))
        go_ret
        exact ⟨none, 0, rfl, World.ownsRow_nil _ _ _ _, HB.out⟩
      · injection e with e1 e2 e3
        subst e1 e3
        have hH : Holds encStr wr gr 0 ss.toArray := holds_of_block hb (by simpa using h4)
        have hgl : gr < wr.heap.size := (Array.getElem?_eq_some_iff.1 hb).1
        have HS := sort_strings gr 0 c1 ss wr hH hgl (by omega)
        have HB := Lib.hid hnx
        have HL := Lib.hid hlen
        have HSO := Lib.hid hso
        have HBB := Lib.hid hb
        clear hrow hrow0 hC hrg hnx hso hperm hlen hH
        go_wp2_with (((with_reducible refine calls_id ?_); refine HS.mono ?_; rintro z w2 ⟨rfl, nn, os, rfl⟩))
        go_ret
        refine ⟨some ⟨gr, 0, none⟩, c1, by rw [← HL.out]; rfl, ?_, HB.out.grown (grownBy_sorted _) HB.out.size (fun j hj => by cases hj; exact hbase)⟩
        have hfin := ownsRow_sorted (n := nn) (os := os) (ts := ss.mergeSort fun x y => decide (x ≤ y)) (by simp) hbase HBB.out h1 h2 h3
        have hmap : ((ss.mergeSort fun x y => decide (x ≤ y)).map encStr) = namesL l := by
          have e := HSO.out
          unfold leB at e
          rw [e, List.map_map]
          unfold namesL
          refine List.map_congr_left fun x _ => ?_
          simp only [Function.comp, encStr]
          rw [show (⟨x.k.toList.toArray⟩ : ByteArray) = x.k from ba_ext (by rw [Lib.toList_data])]
        rw [hmap, HL.out] at hfin
        exact hfin
    · intro x c kl yd yp w2 cnt2 hkey hlk hv hat hrg2 hlt hg2 hs2 hen
      obtain ⟨x', ex, rfl, _⟩ := Maps.keyOf_str Tryz.underlying9 hkey
      obtain rfl : x = x' := encStr_inj ex
      have hrow2 := hrow.kept hg2 (Or.inr (row_ne_iter hrow hrg).symm)
      have hnx2 := hnx.grown hg2 hnx.size (fun j hj => by cases hj; exact Nat.le_refl _)
      have hz2 : w.heap.size ≤ w2.heap.size := hnx2.size
      clear hs2
      have hbn := (one_at w2 9 [encStr x]).2
      have HN := Lib.hid (Rd.lit (w := w2) (t := 9) (n := 1) (cs := [encStr x]) rfl (by simp [maxLen]) (by omega : 0 < 1))
      have HO := Lib.hid (show OwnTx (World.alloc w2 (.cells [encStr x].toArray 9)) w.heap.size A1 ss.length c1 ss from own_below hrow2 hbn)
      have HBN := Lib.hid (chain hnx2 hbn)
      have hz3 := Nat.le_trans hz2 hbn.size
      have hrg3 := hrg2.kept (grown_below hbn none) (by simp) (by simp)
      have hR2 := Lib.hid hrow2
      have HR3 := Lib.hid hrg3
      have HC := Lib.hid (hC.step hlk hat)
      have hssl : ss.length ≤ 1000000 := by omega
      clear hbn hrow2 hrg3 hnx2
      go_wp2_with (first
        | (at_builtin; refine app_tx rfl (.tmp 16) (.tmp 18) rfl rfl HO.out x rfl HN.out hz3 hssl ?_; intro A3 c3 w4 hW4 hG4 hB4)
        | go_in)
      have hrg4 := HR3.out.kept hG4 (row_ne_low (show World.ownsRow _ _ _ _ _ _ _ from HO.out) (by omega)) (row_ne_iter (show World.ownsRow _ _ _ _ _ _ _ from HO.out) HR3.out)
      have hfin := HBN.out.trans hB4
      go_roundw
      case rel => exact ⟨_, cnt2, ss ++ [x], A3, c3, by rw [List.length_append]; rfl, hrg4, by rw [List.length_append, List.length_singleton]; omega, by rw [List.length_append]; exact hW4, HC.out, hfin⟩
      case measure => rw [hrg4.left_eq, hrg.left_eq]; exact hlt
end
end Go.Proofs.YtnkjekkdndjfaaaGreat
namespace Go.Proofs.YtnkjekkdndjfaaaGreat
set_option linter.unusedVariables false
set_option linter.unusedSimpArgs false
open Go.RowKit
/-- a file as the document knows it -/
def Fi.core (x : Fi) : Fi := ⟨x.k, x.b, none, 0, 0, x.s⟩
/-- how much a crash leaves -/
def crashN (ks : List Nat) (i : Nat) (x : Fi) : Nat := x.s.toNat + (if h : i < ks.length then ks[i] % (x.b.length - x.s.toNat + 1) else 0)
def crashX (ks : List Nat) (i : Nat) (x : Fi) : Fi := ⟨x.k, x.b.take (crashN ks i x), none, 0, 0, (crashN ks i x : Int)⟩
def crashF (ks : List Nat) : Nat → List Fi → List Fi
  | _, [] => []
  | i, x :: l => crashX ks i x :: crashF ks (i + 1) l
theorem crashF_length (ks : List Nat) : ∀ (i : Nat) (l : List Fi), (crashF ks i l).length = l.length
  | _, [] => rfl
  | i, x :: l => by rw [crashF, List.length_cons, List.length_cons, crashF_length ks (i + 1) l]
theorem crashF_at (ks : List Nat) : ∀ (i j : Nat) (l : List Fi) (h : j < l.length), (crashF ks i l)[j]? = some (crashX ks (i + j) l[j])
  | i, 0, x :: l, h => rfl
  | i, j + 1, x :: l, h => by
    rw [crashF, List.getElem?_cons_succ, crashF_at ks (i + 1) j l (by simpa using h), show i + 1 + j = i + (j + 1) by omega]
    rfl
theorem crashF_succ {ks : List Nat} {l : List Fi} {i : Nat} (h : i < l.length) : (crashF ks 0 l).take (i + 1) = (crashF ks 0 l).take i ++ [crashX ks i l[i]] := by
  have hl := crashF_length ks 0 l
  have e := crashF_at ks 0 i l h
  rw [Nat.zero_add] at e
  rw [List.take_succ_eq_append_getElem (by rw [hl]; exact h)]
  congr 2
  rw [List.getElem?_eq_getElem (by rw [hl]; exact h)] at e
  exact Option.some.inj e
theorem crashN_le {ks : List Nat} {i : Nat} {x : Fi} (h : x.s.toNat ≤ x.b.length) : crashN ks i x ≤ x.b.length := by
  unfold crashN
  split
  · have := Nat.mod_lt (ks[i]) (show 0 < x.b.length - x.s.toNat + 1 by omega)
    omega
  · omega
theorem getF_mem {l : List Fi} (ha : AscF l) {x : Fi} (hx : x ∈ l) : getF l x.k = x := by
  unfold getF findF
  induction l with
  | nil => cases hx
  | cons y l ih =>
    unfold AscF at ha
    rw [List.pairwise_cons] at ha
    rcases List.mem_cons.1 hx with rfl | hx
    · simp
    · have hne : y.k ≠ x.k := kless_ne (ha.1 x hx)
      rw [List.find?_cons, decide_eq_false hne]
      exact ih ha.2 hx
theorem put_mid {p q : List Fi} {x e : Fi} (ha : AscF (p ++ x :: q)) (hk : e.k = x.k) : applyF e false (p ++ x :: q) = p ++ e :: q := by
  have hc : CutF (p ++ x :: q) e.k p [x] q := by
    unfold AscF at ha
    rw [List.pairwise_append, List.pairwise_cons] at ha
    exact ⟨by simp, fun c hc => by rw [hk]; exact ha.2.2 c hc x (by simp), fun c hc => by rw [hk]; exact ha.2.1.1 c hc, .inr ⟨x, rfl, hk.symm⟩⟩
  rw [hc.apply false]
  simp
/-- a row of numbers of 16 bits -/
abbrev RdK (w : World) (B : Nat) (A : Option Addr) (n c : Nat) (ks : List Nat) : Prop := Rd w B 1 A n c (ks.map fun k : Nat => Value.int .u16 (k : Int))
section
variable {g b N : Nat} {l : List Fi} {lost armed : Bool} {left : Int}
theorem crash_nil (A : Option Addr) (n c : Nat) (w : World) : Calls Tryz.prog 20 #[.pointer none, .slice A n c] w fun x w' => x = .returned (.tuple #[]) ∧ Below w.heap.size w w' := by
  have HN := names_nil w
  go_enter Tryz.func20, Tryz.ntmps20
  go_wp2_with (((with_reducible refine (HN).mono ?_); rintro z v ⟨rfl, rfl⟩))
  go_loopw [11] (fun i wr => i = .int .i64 0 ∧ wr = w) (fun _ _ => 0)
  case atStart => exact ⟨rfl, rfl⟩
  case round =>
    obtain ⟨rfl, rfl⟩ := hrel
    go_wp2_with fail
    go_end0
    exact ⟨rfl, Below.refl _ _⟩
set_option maxRecDepth 100000 in
set_option maxHeartbeats 4000000 in
theorem crash_any (A : Option Addr) (n c : Nat) (ks : List Nat) (w : World) (h : IsDk w g b N l lost armed left) (hN : N ≤ 100000) (hl : l.length ≤ 100000)
    (hkeep : ∀ v, Mod (fun i _ => i = b) w v → RdK v v.heap.size A n c ks) (hks : ∀ x ∈ ks, x < 65536) (hsz : ∀ x ∈ l, x.b.length ≤ 100000000 ∧ x.k.size ≤ maxLen) :
    Calls Tryz.prog 20 #[.pointer (some ⟨g, 0, none⟩), .slice A n c] w fun x w' => x = .returned (.tuple #[]) ∧ Mod (fun i _ => i = g ∨ i = b) w w' ∧ ∃ l', l'.map Fi.core = crashF ks 0 l ∧ IsDk w' g b (N + l.length) l' false false 0 := by
  have HNA := names_any w h (by omega)
  have hasc0 := h.mp.asc
  have H := Lib.hid h
  have hgl := h.lt
  have HK := Lib.hid hkeep
  have HKS := Lib.hid hks
  have HSZ := Lib.hid hsz
  have hcr0 := hkeep w (Mod.refl _ _)
  have hcn : ks.length = n := by have := hcr0.len; rw [List.length_map] at this; omega
  have hcl := hcr0.le
  have hcm := hcr0.max
  unfold maxLen at hcm
  clear h hkeep hks hsz hcr0
  go_enter Tryz.func20, Tryz.ntmps20
  go_wp2_with (((with_reducible refine (HNA).mono ?_); rintro z w1 ⟨A2, c2, rfl, hown2, hb1⟩))
  have h1 := H.out.step hb1
  have HNR := Lib.hid (show ∀ v, Mod (fun i _ => i = b) w1 v → Rd v v.heap.size 1 A2 l.length c2 (namesL l) from fun v hm => Rd.of_own (own_mod hown2 hm (fun i o ho _ hit => h1.mp.free ho hit)))
  have hm1 : Mod (fun i _ => i = b) w w1 := (Mod.refl _ w).below hb1
  have HM1 := Lib.hid hm1
  have HB1 := Lib.hid hb1
  have H1 := Lib.hid h1
  have hle2 := (Rd.of_own hown2).le
  have hmx2 := (Rd.of_own hown2).max
  unfold maxLen at hmx2
  clear HNA hown2 hb1 h1 hm1
  go_loopw [11] (fun i wr => ∃ (k : Nat) (p : List Fi), i = .int .i64 (k : Int) ∧ k ≤ l.length ∧ p.map Fi.core = (crashF ks 0 l).take k ∧ IsDk wr g b (N + k) (p ++ l.drop k) lost armed left ∧ Mod (fun i _ => i = b) w1 wr) (fun i _ => l.length - (intOf i).toNat)
  case atStart => exact ⟨0, [], rfl, Nat.zero_le _, rfl, H1.out, Mod.refl _ _⟩
  case round =>
    clear H1
    obtain ⟨k, p, rfl, hk, hp, h, hm⟩ := hrel
    by_cases hlt : k < l.length
    · have hcs := crashF_succ (ks := ks) hlt
      have hdr := List.drop_eq_getElem_cons hlt
      obtain ⟨gn, on, u, e, hgn, hu, hcell⟩ := (HNR.out wr hm).get (k := k) hlt
      subst e
      have hu2 : u = .string (l[k]).k := by
        unfold namesL at hu
        rw [List.getElem?_map, List.getElem?_eq_getElem hlt] at hu
        exact (Option.some.inj hu).symm
      subst hu2
      have hxs := HSZ.out l[k] (List.getElem_mem hlt)
      rw [hdr] at h
      generalize l[k] = x at *
      have hown := h.own x (by simp)
      have hgf := getF_mem h.mp.asc (x := x) (by simp)
      have hpm := fun e he => put_mid (e := e) h.mp.asc he
      have hlk := h.mp.look1 hxs.2
      rw [hgf] at hlk
      obtain ⟨fk, fb, fA, fn, fc, fs⟩ := x
      simp only at hown hxs hlk hcell
      unfold Fi.val at hlk
      simp only at hlk
      obtain ⟨hfo, hs0, hs1⟩ := hown
      obtain ⟨hfb, hfkm⟩ := hxs
      have hln := hfo.length
      obtain ⟨S, rfl⟩ := Int.eq_ofNat_of_zero_le hs0
      have hS : S ≤ fb.length := by omega
      obtain ⟨m, hm0⟩ : ∃ m, crashN ks k ⟨fk, fb, fA, fn, fc, (S : Int)⟩ = m := ⟨_, rfl⟩
      have hml : m ≤ fb.length := by rw [← hm0]; exact crashN_le (by show ((S : Int)).toNat ≤ fb.length; omega)
      unfold crashX at hcs
      rw [hm0] at hcs
      simp only at hcs
      unfold crashN at hm0
      simp only [Int.toNat_natCast] at hm0
      generalize Fi.addr _ = fA' at *
      have HP := Lib.hid hp
      have HCS := Lib.hid hcs
      have HPM := Lib.hid hpm
      have HM := Lib.hid hm
      obtain ⟨⟨x0, x1, x2, x3⟩, xf⟩ := at4 h.at_
      clear hp hcs hpm hm hgf hs0 hs1 hu hdr
      go_upto_region 4 with fail
      obtain ⟨h6, hb3⟩ := one_at wr 96 [.slice fA' fn fc, .int .i64 (S : Int)]
      have H := Lib.hid (h.step hb3)
      have HM := Lib.hid (HM.out.below hb3)
      have hfo2 := own_below (show World.ownsRow _ _ _ _ _ _ _ from hfo) hb3
      clear h hfo hb3 x0 x1 x2 x3 xf hlk hcell
      generalize World.alloc wr _ = w3 at *
      generalize wr.heap.size = g6 at *
      obtain ⟨⟨y0, y1⟩, yf⟩ := at2 h6
      have hfo : OwnB w3 0 fA' fn fc fb := hfo2
      clear hfo2
      have h := H.out
      clear H
      by_cases hki : k < n
      ·
        have hk2 : k < ks.length := by omega
        rw [dif_pos hk2] at hm0
        obtain ⟨gk, ok, u, e, hgk, hu, hck⟩ := (HK.out w3 (HM1.out.trans HM.out)).get (k := k) hki
        subst e
        have hkb := HKS.out ks[k] (List.getElem_mem hk2)
        rw [List.getElem?_map, List.getElem?_eq_getElem hk2] at hu
        have hu3 := (Option.some.inj hu).symm
        subst hu3
        clear hu
        generalize ks[k] = kk at *
        have hlast : (S : Int) + ((kk % (fn - S + 1) : Nat) : Int) = (m : Int) := by rw [← hm0, hln]; omega
        have hd1 : ((fn : Int) - (S : Int)) = ((fn - S : Nat) : Int) := by omega
        have hw1 : IntKind.i64.wrap ((fn : Int) - (S : Int)) = ((fn - S : Nat) : Int) := by rw [hd1]; exact IntWalk.i64_in _ (by omega)
        have hw2 : IntKind.i64.wrap (((fn - S : Nat) : Int) + 1) = ((fn - S + 1 : Nat) : Int) := by rw [show (((fn - S : Nat) : Int) + 1) = ((fn - S + 1 : Nat) : Int) by omega]; exact IntWalk.i64_in _ (by omega)
        have hdb : fn - S + 1 ≤ 100000001 := by omega
        have hd0 : 0 < fn - S + 1 := by omega
        have hrm : kk % (fn - S + 1) < 65536 := Nat.lt_of_le_of_lt (Nat.mod_le _ _) hkb
        have hwk : IntKind.i64.wrap (kk : Int) = (kk : Int) := IntWalk.i64_in _ (by omega)
        have hmb : IntKind.i64.wrap (m : Int) = (m : Int) := IntWalk.i64_in _ (by omega)
        have heq : (S : Int) + (kk : Int) % (((fn - S : Nat) : Int) + 1) = (m : Int) := by rw [← hlast]; simp
        have hval : wrap64 ((S : Int) + (kk : Int) % (((fn - S : Nat) : Int) + 1)) = (m : Int) := by rw [heq]; unfold wrap64; omega
        have HVAL := Lib.hid hval
        clear hval heq hlast
        go_upto_region 6 with fail
        go_quiet (fail)
        rw [HVAL.out]
        clear HVAL hck y0 y1 yf hw1 hw2 hd1 hwk
        replace h := h.drewN nq
        replace h6 := h6.drewN nq
        have HM := Lib.hid (HM.out.drewN nq)
        have hfo3 : OwnB (w3.drewN nq) 0 fA' fn fc fb := hfo
        clear hfo
        have hfo := hfo3
        clear hfo3
        generalize World.drewN _ _ = w3 at *
        go_upto_region 7 with fail
        refine region_any (by kernel_rfl) ?_
        change wpAny _ _ _ _ _ _ _ (World.drew _)
        replace h := h.drew
        replace h6 := h6.drew
        have HM := Lib.hid HM.out.drew
        have hfo2 : OwnB (World.drew w3) 0 fA' fn fc fb := hfo
        clear hfo
        generalize World.drew _ = w4 at *
        have hrt := RdB.take (OwnB.rd hfo2) (k := m) (c' := fc) (by rw [← hln]; exact hml) (by have := (OwnB.rd hfo2).le; omega) (Nat.le_refl _)
        have hle := (OwnB.rd hfo2).le
        have hmx := (OwnB.rd hfo2).max
        unfold maxLen at hmx
        have hmc : m ≤ fc := by omega
        obtain ⟨⟨x0, x1, x2, x3⟩, xf⟩ := at4 h.at_
        obtain ⟨⟨y0, y1⟩, yf⟩ := at2 h6
        have l1 := h.lt.1
        have l6 := h6.lt
        refine stage 12 ?_
        refine tag [0,1,2,3,4,5,6,7,8,10] ?_
        iterate 10 (
          refine sR (v := ?_) rfl (by kernel_rfl) (fun _ _ _ h => h) (Or.inl ⟨by kernel_rfl, ?_⟩) ?_
          rotate_left
          · (intro wS hwS; obtain ⟨hcS, hfS, hhS⟩ := bcell hwS; go_simp; try (first | (with_reducible rfl) | rw [if_pos (by omega)] | rw [if_neg (by omega)]))
          try simp only [PT])
        refine tagN ?_
        refine stage_one 9 (by kernel_rfl) rfl (by kernel_rfl) (fun K hK => ?_)
        go_simp
        refine (clone_any fA' m fc (fb.take m) w4 hrt (by omega)).mono ?_
        rintro z w5 ⟨A5, c5, rfl, hown5, hb5⟩
        refine hK.out _ _ (hb5) ?_
        clear hK K
        try simp only [PT]
        replace h := h.step hb5
        have HM := Lib.hid (HM.out.below hb5)
        obtain ⟨P, hP⟩ := own_pair hown5
        subst hP
        clear hb5 x0 x1 x2 x3 xf y0 y1 yf l1 l6 hfo2 hrt h6
        obtain ⟨⟨x0, x1, x2, x3⟩, xf⟩ := at4 h.at_
        have l1 := h.lt.1
        obtain ⟨w6, hrun, hd6, hG6⟩ := h.store ⟨fk, fb.take m, P, m, c5, (m : Int)⟩ hfkm (lt_maxN (by omega)) ⟨own_lower (show World.ownsRow _ _ _ _ _ _ _ from hown5) (Nat.zero_le _), by show (0 : Int) ≤ (m : Int); omega, by show (m : Int) ≤ (((fb.take m).length : Nat) : Int); rw [List.length_take]; omega⟩
        unfold Fi.val Fi.addr at hrun
        dsimp only at hrun
        have HR := Lib.hid hrun
        clear hrun
        refine tag [11] ?_
        refine sR (v := ?_) rfl (by kernel_rfl) (fun _ _ _ h => h) (Or.inl ⟨by kernel_rfl, ?_⟩) ?_
        rotate_left
        · (intro wS hwS; obtain ⟨hcS, hfS, hhS⟩ := bcell hwS; go_simp; try (first | (with_reducible rfl) | rw [if_pos (by omega)] | rw [if_neg (by omega)]))
        try simp only [PT]
        refine tagN ?_
        have hrun := HR.out
        refine stage_end (by kernel_rfl) rfl (fun K hK => ?_)
        go_simp
        refine hK.out _ _ ?_
        clear hK K
        try simp only [PT]
        first | refine wpAnyT_done (by kernel_rfl) ?_ _ | refine wpAny_done (by kernel_rfl) ?_ _
        have hm6 := HM.out.grown hG6 (fun i o _ _ e => Option.some.inj e.symm)
        have HD := Lib.hid hd6
        have HM6 := Lib.hid hm6
        clear x0 x1 x2 x3 xf l1 h hown5 hrun hG6 HM hd6 hm6
        go_wp2_with fail
        go_roundw
        case rel => exact ⟨k + 1, p ++ [⟨fk, fb.take m, P, m, c5, (m : Int)⟩], by go_num, by omega, by rw [List.map_append, HP.out, HCS.out]; rfl, by have e := HD.out; rw [HPM.out ⟨fk, fb.take m, P, m, c5, (m : Int)⟩ rfl] at e; rw [List.append_assoc]; exact e, HM6.out⟩
        case measure => simp [intOf]; omega
      ·
        have hk2 : ¬ k < ks.length := by omega
        rw [dif_neg hk2] at hm0
        have hSm : m = S := by omega
        subst hSm
        go_upto_region 7 with fail
        clear y0 y1 yf
        refine region_any (by kernel_rfl) ?_
        change wpAny _ _ _ _ _ _ _ (World.drew _)
        replace h := h.drew
        replace h6 := h6.drew
        have HM := Lib.hid HM.out.drew
        have hfo2 : OwnB (World.drew w3) 0 fA' fn fc fb := hfo
        clear hfo
        generalize World.drew _ = w4 at *
        have hrt := RdB.take (OwnB.rd hfo2) (k := m) (c' := fc) (by rw [← hln]; exact hml) (by have := (OwnB.rd hfo2).le; omega) (Nat.le_refl _)
        have hle := (OwnB.rd hfo2).le
        have hmx := (OwnB.rd hfo2).max
        unfold maxLen at hmx
        have hmc : m ≤ fc := by omega
        obtain ⟨⟨x0, x1, x2, x3⟩, xf⟩ := at4 h.at_
        obtain ⟨⟨y0, y1⟩, yf⟩ := at2 h6
        have l1 := h.lt.1
        have l6 := h6.lt
        refine stage 12 ?_
        refine tag [0,1,2,3,4,5,6,7,8,10] ?_
        iterate 10 (
          refine sR (v := ?_) rfl (by kernel_rfl) (fun _ _ _ h => h) (Or.inl ⟨by kernel_rfl, ?_⟩) ?_
          rotate_left
          · (intro wS hwS; obtain ⟨hcS, hfS, hhS⟩ := bcell hwS; go_simp; try (first | (with_reducible rfl) | rw [if_pos (by omega)] | rw [if_neg (by omega)]))
          try simp only [PT])
        refine tagN ?_
        refine stage_one 9 (by kernel_rfl) rfl (by kernel_rfl) (fun K hK => ?_)
        go_simp
        refine (clone_any fA' m fc (fb.take m) w4 hrt (by omega)).mono ?_
        rintro z w5 ⟨A5, c5, rfl, hown5, hb5⟩
        refine hK.out _ _ (hb5) ?_
        clear hK K
        try simp only [PT]
        replace h := h.step hb5
        have HM := Lib.hid (HM.out.below hb5)
        obtain ⟨P, hP⟩ := own_pair hown5
        subst hP
        clear hb5 x0 x1 x2 x3 xf y0 y1 yf l1 l6 hfo2 hrt h6
        obtain ⟨⟨x0, x1, x2, x3⟩, xf⟩ := at4 h.at_
        have l1 := h.lt.1
        obtain ⟨w6, hrun, hd6, hG6⟩ := h.store ⟨fk, fb.take m, P, m, c5, (m : Int)⟩ hfkm (lt_maxN (by omega)) ⟨own_lower (show World.ownsRow _ _ _ _ _ _ _ from hown5) (Nat.zero_le _), by show (0 : Int) ≤ (m : Int); omega, by show (m : Int) ≤ (((fb.take m).length : Nat) : Int); rw [List.length_take]; omega⟩
        unfold Fi.val Fi.addr at hrun
        dsimp only at hrun
        have HR := Lib.hid hrun
        clear hrun
        refine tag [11] ?_
        refine sR (v := ?_) rfl (by kernel_rfl) (fun _ _ _ h => h) (Or.inl ⟨by kernel_rfl, ?_⟩) ?_
        rotate_left
        · (intro wS hwS; obtain ⟨hcS, hfS, hhS⟩ := bcell hwS; go_simp; try (first | (with_reducible rfl) | rw [if_pos (by omega)] | rw [if_neg (by omega)]))
        try simp only [PT]
        refine tagN ?_
        have hrun := HR.out
        refine stage_end (by kernel_rfl) rfl (fun K hK => ?_)
        go_simp
        refine hK.out _ _ ?_
        clear hK K
        try simp only [PT]
        first | refine wpAnyT_done (by kernel_rfl) ?_ _ | refine wpAny_done (by kernel_rfl) ?_ _
        have hm6 := HM.out.grown hG6 (fun i o _ _ e => Option.some.inj e.symm)
        have HD := Lib.hid hd6
        have HM6 := Lib.hid hm6
        clear x0 x1 x2 x3 xf l1 h hown5 hrun hG6 HM hd6 hm6
        go_wp2_with fail
        go_roundw
        case rel => exact ⟨k + 1, p ++ [⟨fk, fb.take m, P, m, c5, (m : Int)⟩], by go_num, by omega, by rw [List.map_append, HP.out, HCS.out]; rfl, by have e := HD.out; rw [HPM.out ⟨fk, fb.take m, P, m, c5, (m : Int)⟩ rfl] at e; rw [List.append_assoc]; exact e, HM6.out⟩
        case measure => simp [intOf]; omega
    · obtain rfl : k = l.length := by omega
      have hpp : p.map Fi.core = crashF ks 0 l := by rw [hp, List.take_of_length_le (by rw [crashF_length]; exact Nat.le_refl _)]
      rw [List.drop_length, List.append_nil] at h
      obtain ⟨hat, hG⟩ := At.many [(1, .bool false), (2, .bool false), (3, .int .i64 0)] h.at_
      dsimp only [setMany, setL, List.set] at hat hG
      have hfin := h.turn hG hat (by omega)
      have hmf := ((HM1.out.trans hm).mono (N := fun i _ => i = b) (M := fun i _ => i = g ∨ i = b) (fun i o _ _ e => .inr e)).grown hG (fun i o _ _ e => .inl (Option.some.inj e).symm)
      obtain ⟨⟨x0, x1, x2, x3⟩, xf0, xf1, xf2, xf3⟩ := at4 h.at_
      have HD := Lib.hid hfin
      have HMF := Lib.hid hmf
      have HPP := Lib.hid hpp
      clear hfin hmf hpp hp h hat hG hm
      go_wp2_with fail
      go_end0
      exact ⟨rfl, HMF.out, p, HPP.out, HD.out⟩
end
end Go.Proofs.YtnkjekkdndjfaaaGreat
namespace Go.Proofs.YtnkjekkdndjfaaaGreat
set_option linter.unusedVariables false
set_option linter.unusedSimpArgs false
open Go.RowKit
theorem own_lit6 {w : World} {g s n : Nat} {t : TypeId} {cs : List Value} (h : At w g t cs) (hl : cs.length = n * s) (hn : n ≤ maxLen) (base : Nat) (hb : base ≤ g) : w.ownsRow base t s (.slice (some ⟨g, 0, none⟩) n n) n cs := by
  refine ⟨hl, .inr ⟨g, n, cs.toArray, rfl, hb, h, Nat.le_refl _, hn, by simp [hl], by simp [← hl]⟩⟩
/-- a row that is read stays, where its block is left alone -/
theorem Rd.keepM {w w' : World} {M : Nat → Obj → Prop} {B s n c gb off : Nat} {xs : List Value} (h : Rd w B s (some ⟨gb, off, none⟩) n c xs) (hm : Mod M w w') (hM : ∀ o, ¬ M gb o) (hB : B ≤ w.heap.size) : Rd w' w'.heap.size s (some ⟨gb, off, none⟩) n c xs := by
  refine ⟨h.len, h.le, h.max, fun hc => ?_⟩
  obtain ⟨g, off', e, hg, hcell⟩ := h.cells hc
  injection e with e
  injection e with e1 e2
  subst e1 e2
  refine ⟨gb, off, rfl, Nat.lt_of_lt_of_le (Nat.lt_of_lt_of_le hg hB) hm.size, fun j u hu => ?_⟩
  have h1 := hcell j u hu
  have hlt := World.block_lt_of_cell? w _ h1
  have h2 := hm.block gb _ (Array.getElem?_eq_getElem hlt) (hM _)
  rw [World.cell?_of_block (h2.trans (Array.getElem?_eq_getElem hlt).symm)]
  exact h1
/-- a marked row of bytes, just made -/
theorem rd_mark (w : World) (t : TypeId) (cs : List Value) (fr : Nat × Nat) {s n : Nat} (hl : cs.length = n * s) (hn : n ≤ maxLen) : Rd (w.alloc (.cells cs.toArray t fr)) (w.heap.size + 1) s (some ⟨w.heap.size, 0, none⟩) n n cs := by
  refine ⟨hl, Nat.le_refl _, hn, fun _ => ⟨_, 0, rfl, by omega, fun j u hu => ?_⟩⟩
  rw [Nat.zero_add, World.cell?_alloc_mark]
  simpa using hu
theorem put_one {e c : Fi} (h : e.k = c.k) : applyF e false [c] = [e] := put_mid (p := []) (q := []) (x := c) (by unfold AscF; simp) h
theorem get_one (c : Fi) (k : ByteArray) (h : c.k = k) : getF [c] k = c := by subst h; exact getF_mem (by unfold AscF; simp) (by simp)
theorem find_one (c : Fi) (k : ByteArray) (h : c.k = k) : (findF [c] k).isSome = true := by unfold findF; simp [h]
abbrev exF : ByteArray := ⟨#[102]⟩
end Go.Proofs.YtnkjekkdndjfaaaGreat
