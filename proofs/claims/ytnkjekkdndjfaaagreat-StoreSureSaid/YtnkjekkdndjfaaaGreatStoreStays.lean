
/- Chapter 11: which of the states that may be does a store have; the law's own memory. -/
import Derived.Test.YtnkjekkdndjfaaaGreatStoB
import Derived.Test.YtnkjekkdndjfaaaGreatStoA
import Derived.Test.YtnkjekkdndjfaaaGreatKvItems9
namespace Go.Proofs.YtnkjekkdndjfaaaGreat
set_option linter.unusedVariables false
set_option linter.unusedSimpArgs false
open Go.RowKit
/-- a state that may be: its revision, its row, its items -/
structure Kst where
  rev : Int
  A : Option Addr
  n : Nat
  c : Nat
  l : List It
def Kst.row (m : Kst) : List Value := [.int .i64 m.rev, .slice m.A m.n m.c]
theorem Kst.row_length (m : Kst) : m.row.length = 2 := rfl
/-- the types of the law's own memory -/
def T3 (t : TypeId) : Prop := t = 41 ∨ t = 44 ∨ t = 108
structure Mem (w : World) (B g8 g11 : Nat) (m : Kst) (cr : List Value) (ms : List Kst) (Am : Option Addr) (mn cm : Nat) : Prop where
  st : At w g8 41 m.row
  cr : At w g11 44 cr
  own : OwnRI w B m.A m.n m.c m.l
  may : w.ownsRow B 41 2 (.slice Am mn cm) mn (ms.flatMap Kst.row)
  ms : ∀ x ∈ ms, OwnRI w B x.A x.n x.c x.l
section
variable {w w' : World} {B g8 g11 : Nat} {m : Kst} {cr : List Value} {ms : List Kst} {Am : Option Addr} {mn cm : Nat} {M : Nat → Obj → Prop}
theorem Mem.mod (h : Mem w B g8 g11 m cr ms Am mn cm) (hm : Mod M w w') (hT : ∀ t, T3 t → ∀ i o, w.heap[i]? = some o → IsT t o → ¬ M i o) : Mem w' B g8 g11 m cr ms Am mn cm :=
  ⟨hm.at h.st (hT _ (.inl rfl) _ _ h.st rfl), hm.at h.cr (hT _ (.inr (.inl rfl)) _ _ h.cr rfl), own_mod h.own hm (fun i o ho _ hit => hT _ (.inr (.inr rfl)) i o ho hit),
    own_mod h.may hm (fun i o ho _ hit => hT _ (.inl rfl) i o ho hit), fun x hx => own_mod (h.ms x hx) hm (fun i o ho _ hit => hT _ (.inr (.inr rfl)) i o ho hit)⟩
theorem Mem.step (h : Mem w B g8 g11 m cr ms Am mn cm) (hb : Below w.heap.size w w') : Mem w' B g8 g11 m cr ms Am mn cm :=
  h.mod ((Mod.refl (fun _ _ => False) w).below hb) (fun _ _ _ _ _ _ e => e)
theorem Mem.dk {gd bd N : Nat} {d : PD} (h : Mem w B g8 g11 m cr ms Am mn cm) (hd : IsD w gd bd N d) (hm : Mod (fun i _ => i = gd ∨ i = bd) w w') : Mem w' B g8 g11 m cr ms Am mn cm :=
  h.mod hm fun t ht i o ho hit => hd.free ho hit (by rcases ht with rfl | rfl | rfl <;> decide)
theorem Mem.m6 {gs gd bd N gst bst Ns gl : Nat} {d : PD} {s : SL} {sz ev since : Int} {ld dead : Bool} (h : Mem w B g8 g11 m cr ms Am mn cm) (hs : IsSto w gs gd bd N gst bst Ns gl d s sz ld ev since dead) (hm : Mod (M6 gs gd bd gst bst gl) w w') : Mem w' B g8 g11 m cr ms Am mn cm :=
  h.mod hm fun t ht i o ho hit => hs.farT ho hit (by rcases ht with rfl | rfl | rfl <;> decide) (by rcases ht with rfl | rfl | rfl <;> decide) (by rcases ht with rfl | rfl | rfl <;> decide) (by rcases ht with rfl | rfl | rfl <;> decide)
theorem Mem.drew (h : Mem w B g8 g11 m cr ms Am mn cm) : Mem w.drew B g8 g11 m cr ms Am mn cm := h.step (Below.drew (Below.refl _ _))
end
def STY (w w' : World) (ms : List Kst) (s : SL) (x : Ending) : Prop := (∃ k : Nat, x = .returned (.int .i64 (k : Int)) ∧ ∃ hk : k < ms.length, ms[k].rev = s.rev ∧ ms[k].l = s.l) ∧ Below w.heap.size w w'
set_option maxRecDepth 100000 in
set_option maxHeartbeats 4000000 in
theorem stays_any {gs gd bd N gst bst Ns gl : Nat} {d : PD} {s : SL} {sz ev since : Int} {ld dead : Bool} {ms : List Kst} {Am : Option Addr} {mn cm : Nat} (w : World) (h : IsSto w gs gd bd N gst bst Ns gl d s sz ld ev since dead) (hNs : Ns ≤ 1000000) (hk : Ks s)
    (hr : Rd w w.heap.size 2 Am mn cm (ms.flatMap Kst.row)) (hm : ∀ m ∈ ms, RdI w w.heap.size m.A m.n m.c m.l) (hex : ∃ m ∈ ms, m.rev = s.rev ∧ m.l = s.l) :
    Calls Tryz.prog 21 #[.pointer (some ⟨gs, 0, none⟩), .slice Am mn cm] w fun x w' => STY w w' ms s x := by
  have hln := Rd.count Kst.row_length (by omega) hr
  have hmax := hr.max
  have hle := hr.le
  unfold maxLen at hmax
  subst hln
  have HR := Lib.hid hr
  have HM := Lib.hid hm
  have HX := Lib.hid hex
  clear hr hm hex
  go_enter Tryz.func21, Tryz.ntmps21
  go_wp2_with fail
  go_loopw [9] (fun i wr => ∃ k : Nat, i = .int .i64 (k : Int) ∧ k ≤ ms.length ∧ (∀ j (hj : j < ms.length), j < k → ¬ (ms[j].rev = s.rev ∧ ms[j].l = s.l)) ∧ Below w.heap.size w wr) (fun i _ => ms.length - (intOf i).toNat)
  case atStart => exact ⟨0, rfl, Nat.zero_le _, fun j hj h0 => absurd h0 (Nat.not_lt_zero _), Below.refl _ _⟩
  case round =>
    obtain ⟨k, rfl, hk2, hno, hB⟩ := hrel
    by_cases hlt : k < ms.length
    · obtain ⟨ga, off, ee, hga, he⟩ := HR.out.elem Kst.row_length (by omega) (k := k) hlt
      subst ee
      have hbc := bcell hB
      have e0 := (hbc.1 _ _ hga).trans (he 0 _ rfl)
      have e1 := (hbc.1 _ _ hga).trans (he 1 _ rfl)
      rw [Nat.add_zero] at e0
      have hri := HM.out _ (List.getElem_mem hlt)
      have HNO := Lib.hid hno
      have HYES := Lib.hid (show ms[k].rev = s.rev → ms[k].l = s.l → (∃ (k1 : Nat) (hk : k1 < ms.length), (.returned (.int .i64 (k : Int)) : Ending) = .returned (.int .i64 (k1 : Int)) ∧ ms[k1].rev = s.rev ∧ ms[k1].l = s.l) from fun a b => ⟨k, hlt, rfl, a, b⟩)
      have HNEXT := Lib.hid (show ¬ (ms[k].rev = s.rev ∧ ms[k].l = s.l) → ∀ j (hj : j < ms.length), j < k + 1 → ¬ (ms[j].rev = s.rev ∧ ms[j].l = s.l) from fun hn j hj h1 => by
        rcases Nat.lt_succ_iff_lt_or_eq.1 h1 with h2 | h2
        · exact hno j hj h2
        · subst h2; exact hn)
      clear he hbc hno
      generalize ms[k] = y at *
      obtain ⟨yr, yA, yn, yc, yl⟩ := y
      simp only at e0 e1 hri
      obtain ⟨h6, hb6⟩ := one_at wr 41 [.int .i64 yr, .slice yA yn yc]
      replace hB := chain hB hb6
      go_upto_region 4 with fail
      clear e0 e1 hb6
      generalize World.alloc _ _ = w2 at *
      generalize wr.heap.size = g6 at *
      by_cases hrv : s.rev = yr
      · have hrb : (s.rev == yr) = true := by simpa using hrv
        have HRV := Lib.hid hrv
        clear hrv
        refine region_any (by kernel_rfl) ?_
        change wpAny _ _ _ _ _ _ _ (World.drew _)
        replace hB := chain hB (Below.drew (Below.refl _ _))
        replace h6 := At.drew h6
        generalize World.drew _ = w3 at *
        obtain ⟨⟨x0, x1⟩, xf⟩ := at2 h6
        have l6 := h6.lt
        have hS := h.step hB
        refine stage 100000 ?_
        refine tag [0,2,3] ?_
        iterate 3 (
          refine sR (v := ?_) rfl (by kernel_rfl) (fun _ _ _ h => h) (Or.inl ⟨by kernel_rfl, ?_⟩) ?_
          rotate_left
          · (intro wS hwS; obtain ⟨hcS, hfS, hhS⟩ := bcell hwS; go_simp; try (first | (with_reducible rfl) | rw [if_pos (by omega)] | rw [if_neg (by omega)]))
          try simp only [PT])
        refine tagN ?_
        refine stage_one 1 (by kernel_rfl) rfl (by kernel_rfl) (fun K hK => ?_)
        go_simp
        refine (srev_any _ hS.blk hS.st).mono ?_
        rintro z w4 ⟨rfl, rfl⟩
        refine hK.out _ _ ((Below.refl _ _)) ?_
        clear hK K
        try simp only [PT]
        refine tag [4,5,6,8,9] ?_
        iterate 5 (
          refine sR (v := ?_) rfl (by kernel_rfl) (fun _ _ _ h => h) (Or.inl ⟨by kernel_rfl, ?_⟩) ?_
          rotate_left
          · (intro wS hwS; obtain ⟨hcS, hfS, hhS⟩ := bcell hwS; go_simp; try (first | (with_reducible rfl) | rw [if_pos (by omega)] | rw [if_neg (by omega)]))
          try simp only [PT])
        refine tagN ?_
        refine stage_one 7 (by kernel_rfl) rfl (by kernel_rfl) (fun K hK => ?_)
        go_simp
        refine (sall_any _ hS.blk hS.st hNs hk.sizes).mono ?_
        rintro z w5 ⟨A7, n7, c7, rfl, hown7, hb7⟩
        refine hK.out _ _ (hb7) ?_
        clear hK K
        try simp only [PT]
        replace hB := chain hB hb7
        replace h6 := h6.step hb7
        clear x0 x1 xf l6 hb7
        obtain ⟨⟨x0, x1⟩, xf⟩ := at2 h6
        have l6 := h6.lt

        refine stage_one 10 (by kernel_rfl) rfl (by kernel_rfl) (fun K hK => ?_)
        go_simp
        refine (sitemsg_any A7 yA n7 c7 yn yc s.l yl _ hown7.rd ((Rd.below hri hB).more hB.size)).mono ?_
        rintro z w6 ⟨rfl, hb9⟩
        refine hK.out _ _ (hb9) ?_
        clear hK K
        try simp only [PT]
        refine tag [11] ?_
        refine sR (v := ?_) rfl (by kernel_rfl) (fun _ _ _ h => h) (Or.inl ⟨by kernel_rfl, ?_⟩) ?_
        rotate_left
        · (intro wS hwS; obtain ⟨hcS, hfS, hhS⟩ := bcell hwS; go_simp; try (first | (with_reducible rfl) | rw [if_pos (by omega)] | rw [if_neg (by omega)]))
        try simp only [PT]
        refine tagN ?_
        first | refine wpAnyT_done (by kernel_rfl) ?_ _ | refine wpAny_done (by kernel_rfl) ?_ _
        have HB := Lib.hid (chain hB hb9)
        clear x0 x1 xf l6 h6 hB hb9 hown7 hS
        by_cases hl : s.l = yl
        · have hd : decide (s.l = yl) = true := decide_eq_true hl
          have HL := Lib.hid hl
          clear hl
          go_wp2_with fail
          go_ret
          obtain ⟨k1, hk1, q1, q2, q3⟩ := HYES.out HRV.out.symm HL.out.symm
          exact ⟨⟨k1, q1, hk1, q2, q3⟩, HB.out⟩
        · have hd : decide (s.l = yl) = false := decide_eq_false hl
          go_wp2_with fail
          go_roundw
          case rel => exact ⟨k + 1, by go_num, by omega, HNEXT.out (fun e => hl e.2.symm), HB.out⟩
          case measure => simp [intOf]; omega
      · have hrb : (s.rev == yr) = false := by simpa using hrv
        refine region_any (by kernel_rfl) ?_
        change wpAny _ _ _ _ _ _ _ (World.drew _)
        replace hB := chain hB (Below.drew (Below.refl _ _))
        replace h6 := At.drew h6
        generalize World.drew _ = w3 at *
        obtain ⟨⟨x0, x1⟩, xf⟩ := at2 h6
        have l6 := h6.lt
        have hS := h.step hB
        refine stage 100000 ?_
        refine tag [0,2,3] ?_
        iterate 3 (
          refine sR (v := ?_) rfl (by kernel_rfl) (fun _ _ _ h => h) (Or.inl ⟨by kernel_rfl, ?_⟩) ?_
          rotate_left
          · (intro wS hwS; obtain ⟨hcS, hfS, hhS⟩ := bcell hwS; go_simp; try (first | (with_reducible rfl) | rw [if_pos (by omega)] | rw [if_neg (by omega)]))
          try simp only [PT])
        refine tagN ?_
        refine stage_one 1 (by kernel_rfl) rfl (by kernel_rfl) (fun K hK => ?_)
        go_simp
        refine (srev_any _ hS.blk hS.st).mono ?_
        rintro z w4 ⟨rfl, rfl⟩
        refine hK.out _ _ ((Below.refl _ _)) ?_
        clear hK K
        try simp only [PT]
        refine tag [4,5] ?_
        iterate 2 (
          refine sR (v := ?_) rfl (by kernel_rfl) (fun _ _ _ h => h) (Or.inl ⟨by kernel_rfl, ?_⟩) ?_
          rotate_left
          · (intro wS hwS; obtain ⟨hcS, hfS, hhS⟩ := bcell hwS; go_simp; try (first | (with_reducible rfl) | rw [if_pos (by omega)] | rw [if_neg (by omega)]))
          try simp only [PT])
        refine tagN ?_
        refine tag [6,7,8,9,10] ?_
        iterate 5 (
          refine sP (v := undef) rfl (by kernel_rfl) (fun _ _ _ h => h) (Or.inr ⟨by kernel_rfl, rfl⟩) ?_
          try simp only [PT])
        refine tagN ?_
        refine tag [11] ?_
        refine sR (v := ?_) rfl (by kernel_rfl) (fun _ _ _ h => h) (Or.inl ⟨by kernel_rfl, ?_⟩) ?_
        rotate_left
        · (intro wS hwS; obtain ⟨hcS, hfS, hhS⟩ := bcell hwS; go_simp; try (first | (with_reducible rfl) | rw [if_pos (by omega)] | rw [if_neg (by omega)]))
        try simp only [PT]
        refine tagN ?_
        first | refine wpAnyT_done (by kernel_rfl) ?_ _ | refine wpAny_done (by kernel_rfl) ?_ _
        have HB := Lib.hid hB
        clear x0 x1 xf l6 h6 hB hS
        go_wp2_with fail
        go_roundw
        case rel => exact ⟨k + 1, by go_num, by omega, HNEXT.out (fun e => hrv e.1.symm), HB.out⟩
        case measure => simp [intOf]; omega
    · obtain ⟨m, hm1, hm2⟩ := HX.out
      obtain ⟨j, hj, rfl⟩ := List.getElem_of_mem hm1
      exact absurd hm2 (hno j hj (by omega))
end Go.Proofs.YtnkjekkdndjfaaaGreat
