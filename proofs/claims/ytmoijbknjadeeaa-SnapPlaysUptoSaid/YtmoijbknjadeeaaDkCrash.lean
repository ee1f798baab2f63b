
/- Chapter 6: Crash. -/
import Derived.Test.YtmoijbknjadeeaaDkApp
import Derived.Test.YtmoijbknjadeeaaDkNames
namespace Go.Proofs.Ytmoijbknjadeeaa
set_option linter.unusedVariables false
set_option linter.unusedSimpArgs false
open Go.RowKit
/-- a file as the document knows it -/
def Fi.core (x : Fi) : Fi := ⟨x.k, x.b, none, 0, 0, x.s⟩
/-- how much a crash leaves -/
def crashN (ks : List Nat) (i : Nat) (x : Fi) : Nat := x.s.toNat + (if h : i < ks.length then ks[i] % (x.b.length - x.s.toNat + 1) else 0)
def crashX (ks : List Nat) (i : Nat) (x : Fi) : Fi := ⟨x.k, x.b.take (crashN ks i x), none, 0, 0, (crashN ks i x : Int)⟩
def crashF (ks : List Nat) : Nat → List Fi → List Fi
  | _, [] => []
  | i, x :: l => crashX ks i x :: crashF ks (i + 1) l
theorem crashF_length (ks : List Nat) : ∀ (i : Nat) (l : List Fi), (crashF ks i l).length = l.length
  | _, [] => rfl
  | i, x :: l => by rw [crashF, List.length_cons, List.length_cons, crashF_length ks (i + 1) l]
theorem crashF_at (ks : List Nat) : ∀ (i j : Nat) (l : List Fi) (h : j < l.length), (crashF ks i l)[j]? = some (crashX ks (i + j) l[j])
  | i, 0, x :: l, h => rfl
  | i, j + 1, x :: l, h => by
    rw [crashF, List.getElem?_cons_succ, crashF_at ks (i + 1) j l (by simpa using h), show i + 1 + j = i + (j + 1) by omega]
    rfl
theorem crashF_succ {ks : List Nat} {l : List Fi} {i : Nat} (h : i < l.length) : (crashF ks 0 l).take (i + 1) = (crashF ks 0 l).take i ++ [crashX ks i l[i]] := by
  have hl := crashF_length ks 0 l
  have e := crashF_at ks 0 i l h
  rw [Nat.zero_add] at e
  rw [List.take_succ_eq_append_getElem (by rw [hl]; exact h)]
  congr 2
  rw [List.getElem?_eq_getElem (by rw [hl]; exact h)] at e
  exact Option.some.inj e
theorem crashN_le {ks : List Nat} {i : Nat} {x : Fi} (h : x.s.toNat ≤ x.b.length) : crashN ks i x ≤ x.b.length := by
  unfold crashN
  split
  · have := Nat.mod_lt (ks[i]) (show 0 < x.b.length - x.s.toNat + 1 by omega)
    omega
  · omega
theorem getF_mem {l : List Fi} (ha : AscF l) {x : Fi} (hx : x ∈ l) : getF l x.k = x := by
  unfold getF findF
  induction l with
  | nil => cases hx
  | cons y l ih =>
    unfold AscF at ha
    rw [List.pairwise_cons] at ha
    rcases List.mem_cons.1 hx with rfl | hx
    · simp
    · have hne : y.k ≠ x.k := kless_ne (ha.1 x hx)
      rw [List.find?_cons, decide_eq_false hne]
      exact ih ha.2 hx
theorem put_mid {p q : List Fi} {x e : Fi} (ha : AscF (p ++ x :: q)) (hk : e.k = x.k) : applyF e false (p ++ x :: q) = p ++ e :: q := by
  have hc : CutF (p ++ x :: q) e.k p [x] q := by
    unfold AscF at ha
    rw [List.pairwise_append, List.pairwise_cons] at ha
    exact ⟨by simp, fun c hc => by rw [hk]; exact ha.2.2 c hc x (by simp), fun c hc => by rw [hk]; exact ha.2.1.1 c hc, .inr ⟨x, rfl, hk.symm⟩⟩
  rw [hc.apply false]
  simp
/-- a row of numbers of 16 bits -/
abbrev RdK (w : World) (B : Nat) (A : Option Addr) (n c : Nat) (ks : List Nat) : Prop := Rd w B 1 A n c (ks.map fun k : Nat => Value.int .u16 (k : Int))
section
variable {g b N : Nat} {l : List Fi} {lost armed : Bool} {left : Int}
theorem crash_nil (A : Option Addr) (n c : Nat) (w : World) : Calls Try.prog 19 #[.pointer none, .slice A n c] w fun x w' => x = .returned (.tuple #[]) ∧ Below w.heap.size w w' := by
  have HN := names_nil w
  go_enter Try.func19, Try.ntmps19
  go_wp2_with (((with_reducible refine (HN).mono ?_); rintro z v ⟨rfl, rfl⟩))
  go_loopw [11] (fun i wr => i = .int .i64 0 ∧ wr = w) (fun _ _ => 0)
  case atStart => exact ⟨rfl, rfl⟩
  case round =>
    obtain ⟨rfl, rfl⟩ := hrel
    go_wp2_with fail
    go_end0
    exact ⟨rfl, Below.refl _ _⟩
set_option maxRecDepth 100000 in
set_option maxHeartbeats 4000000 in
theorem crash_any (A : Option Addr) (n c : Nat) (ks : List Nat) (w : World) (h : IsDk w g b N l lost armed left) (hN : N ≤ 100000) (hl : l.length ≤ 100000)
    (hkeep : ∀ v, Mod (fun i _ => i = b) w v → RdK v v.heap.size A n c ks) (hks : ∀ x ∈ ks, x < 65536) (hsz : ∀ x ∈ l, x.b.length ≤ 100000000 ∧ x.k.size ≤ maxLen) :
    Calls Try.prog 19 #[.pointer (some ⟨g, 0, none⟩), .slice A n c] w fun x w' => x = .returned (.tuple #[]) ∧ Mod (fun i _ => i = g ∨ i = b) w w' ∧ ∃ l', l'.map Fi.core = crashF ks 0 l ∧ IsDk w' g b (N + l.length) l' false false 0 := by
  have HNA := names_any w h (by omega)
  have hasc0 := h.mp.asc
  have H := Lib.hid h
  have hgl := h.lt
  have HK := Lib.hid hkeep
  have HKS := Lib.hid hks
  have HSZ := Lib.hid hsz
  have hcr0 := hkeep w (Mod.refl _ _)
  have hcn : ks.length = n := by have := hcr0.len; rw [List.length_map] at this; omega
  have hcl := hcr0.le
  have hcm := hcr0.max
  unfold maxLen at hcm
  clear h hkeep hks hsz hcr0
  go_enter Try.func19, Try.ntmps19
  go_wp2_with (((with_reducible refine (HNA).mono ?_); rintro z w1 ⟨A2, c2, rfl, hown2, hb1⟩))
  have h1 := H.out.step hb1
  have HNR := Lib.hid (show ∀ v, Mod (fun i _ => i = b) w1 v → Rd v v.heap.size 1 A2 l.length c2 (namesL l) from fun v hm => Rd.of_own (own_mod hown2 hm (fun i o ho _ hit => h1.mp.free ho hit)))
  have hm1 : Mod (fun i _ => i = b) w w1 := (Mod.refl _ w).below hb1
  have HM1 := Lib.hid hm1
  have HB1 := Lib.hid hb1
  have H1 := Lib.hid h1
  have hle2 := (Rd.of_own hown2).le
  have hmx2 := (Rd.of_own hown2).max
  unfold maxLen at hmx2
  clear HNA hown2 hb1 h1 hm1
  go_loopw [11] (fun i wr => ∃ (k : Nat) (p : List Fi), i = .int .i64 (k : Int) ∧ k ≤ l.length ∧ p.map Fi.core = (crashF ks 0 l).take k ∧ IsDk wr g b (N + k) (p ++ l.drop k) lost armed left ∧ Mod (fun i _ => i = b) w1 wr) (fun i _ => l.length - (intOf i).toNat)
  case atStart => exact ⟨0, [], rfl, Nat.zero_le _, rfl, H1.out, Mod.refl _ _⟩
  case round =>
    clear H1
    obtain ⟨k, p, rfl, hk, hp, h, hm⟩ := hrel
    by_cases hlt : k < l.length
    · have hcs := crashF_succ (ks := ks) hlt
      have hdr := List.drop_eq_getElem_cons hlt
      obtain ⟨gn, on, u, e, hgn, hu, hcell⟩ := (HNR.out wr hm).get (k := k) hlt
      subst e
      have hu2 : u = .string (l[k]).k := by
        unfold namesL at hu
        rw [List.getElem?_map, List.getElem?_eq_getElem hlt] at hu
        exact (Option.some.inj hu).symm
      subst hu2
      have hxs := HSZ.out l[k] (List.getElem_mem hlt)
      rw [hdr] at h
      generalize l[k] = x at *
      have hown := h.own x (by simp)
      have hgf := getF_mem h.mp.asc (x := x) (by simp)
      have hpm := fun e he => put_mid (e := e) h.mp.asc he
      have hlk := h.mp.look1 hxs.2
      rw [hgf] at hlk
      obtain ⟨fk, fb, fA, fn, fc, fs⟩ := x
      simp only at hown hxs hlk hcell
      unfold Fi.val at hlk
      simp only at hlk
      obtain ⟨hfo, hs0, hs1⟩ := hown
      obtain ⟨hfb, hfkm⟩ := hxs
      have hln := hfo.length
      obtain ⟨S, rfl⟩ := Int.eq_ofNat_of_zero_le hs0
      have hS : S ≤ fb.length := by omega
      obtain ⟨m, hm0⟩ : ∃ m, crashN ks k ⟨fk, fb, fA, fn, fc, (S : Int)⟩ = m := ⟨_, rfl⟩
      have hml : m ≤ fb.length := by rw [← hm0]; exact crashN_le (by show ((S : Int)).toNat ≤ fb.length; omega)
      unfold crashX at hcs
      rw [hm0] at hcs
      simp only at hcs
      unfold crashN at hm0
      simp only [Int.toNat_natCast] at hm0
      generalize Fi.addr _ = fA' at *
      have HP := Lib.hid hp
      have HCS := Lib.hid hcs
      have HPM := Lib.hid hpm
      have HM := Lib.hid hm
      obtain ⟨⟨x0, x1, x2, x3⟩, xf⟩ := at4 h.at_
      clear hp hcs hpm hm hgf hs0 hs1 hu hdr
      go_upto_region 4 with fail
      obtain ⟨h6, hb3⟩ := one_at wr 94 [.slice fA' fn fc, .int .i64 (S : Int)]
      have H := Lib.hid (h.step hb3)
      have HM := Lib.hid (HM.out.below hb3)
      have hfo2 := own_below (show World.ownsRow _ _ _ _ _ _ _ from hfo) hb3
      clear h hfo hb3 x0 x1 x2 x3 xf hlk hcell
      generalize World.alloc wr _ = w3 at *
      generalize wr.heap.size = g6 at *
      obtain ⟨⟨y0, y1⟩, yf⟩ := at2 h6
      have hfo : OwnB w3 0 fA' fn fc fb := hfo2
      clear hfo2
      have h := H.out
      clear H
      by_cases hki : k < n
      ·
        have hk2 : k < ks.length := by omega
        rw [dif_pos hk2] at hm0
        obtain ⟨gk, ok, u, e, hgk, hu, hck⟩ := (HK.out w3 (HM1.out.trans HM.out)).get (k := k) hki
        subst e
        have hkb := HKS.out ks[k] (List.getElem_mem hk2)
        rw [List.getElem?_map, List.getElem?_eq_getElem hk2] at hu
        have hu3 := (Option.some.inj hu).symm
        subst hu3
        clear hu
        generalize ks[k] = kk at *
        have hlast : (S : Int) + ((kk % (fn - S + 1) : Nat) : Int) = (m : Int) := by rw [← hm0, hln]; omega
        have hd1 : ((fn : Int) - (S : Int)) = ((fn - S : Nat) : Int) := by omega
        have hw1 : IntKind.i64.wrap ((fn : Int) - (S : Int)) = ((fn - S : Nat) : Int) := by rw [hd1]; exact IntWalk.i64_in _ (by omega)
        have hw2 : IntKind.i64.wrap (((fn - S : Nat) : Int) + 1) = ((fn - S + 1 : Nat) : Int) := by rw [show (((fn - S : Nat) : Int) + 1) = ((fn - S + 1 : Nat) : Int) by omega]; exact IntWalk.i64_in _ (by omega)
        have hdb : fn - S + 1 ≤ 100000001 := by omega
        have hd0 : 0 < fn - S + 1 := by omega
        have hrm : kk % (fn - S + 1) < 65536 := Nat.lt_of_le_of_lt (Nat.mod_le _ _) hkb
        have hwk : IntKind.i64.wrap (kk : Int) = (kk : Int) := IntWalk.i64_in _ (by omega)
        have hmb : IntKind.i64.wrap (m : Int) = (m : Int) := IntWalk.i64_in _ (by omega)
        have heq : (S : Int) + (kk : Int) % (((fn - S : Nat) : Int) + 1) = (m : Int) := by rw [← hlast]; simp
        have hval : wrap64 ((S : Int) + (kk : Int) % (((fn - S : Nat) : Int) + 1)) = (m : Int) := by rw [heq]; unfold wrap64; omega
        have HVAL := Lib.hid hval
        clear hval heq hlast
        go_upto_region 6 with fail
        go_quiet (fail)
        rw [HVAL.out]
        clear HVAL hck y0 y1 yf hw1 hw2 hd1 hwk
        replace h := h.drewN nq
        replace h6 := h6.drewN nq
        have HM := Lib.hid (HM.out.drewN nq)
        have hfo3 : OwnB (w3.drewN nq) 0 fA' fn fc fb := hfo
        clear hfo
        have hfo := hfo3
        clear hfo3
        generalize World.drewN _ _ = w3 at *
        go_upto_region 7 with fail
        refine region_any (by kernel_rfl) ?_
        change wpAny _ _ _ _ _ _ _ (World.drew _)
        replace h := h.drew
        replace h6 := h6.drew
        have HM := Lib.hid HM.out.drew
        have hfo2 : OwnB (World.drew w3) 0 fA' fn fc fb := hfo
        clear hfo
        generalize World.drew _ = w4 at *
        have hrt := RdB.take (OwnB.rd hfo2) (k := m) (c' := fc) (by rw [← hln]; exact hml) (by have := (OwnB.rd hfo2).le; omega) (Nat.le_refl _)
        have hle := (OwnB.rd hfo2).le
        have hmx := (OwnB.rd hfo2).max
        unfold maxLen at hmx
        have hmc : m ≤ fc := by omega
        obtain ⟨⟨x0, x1, x2, x3⟩, xf⟩ := at4 h.at_
        obtain ⟨⟨y0, y1⟩, yf⟩ := at2 h6
        have l1 := h.lt.1
        have l6 := h6.lt
        refine stage 12 ?_
        refine stage_read (i := 0) (v := ?_) rfl (by kernel_rfl) (by kernel_rfl) (by kernel_rfl) (by kernel_rfl) (by kernel_rfl) (by kernel_rfl) (fun _ _ _ h => h) (Or.inl ⟨by kernel_rfl, ?_⟩) ?_
        rotate_left
        · (intro wS hwS; obtain ⟨hcS, hfS, hhS⟩ := bcell hwS; go_simp; try (first | (with_reducible rfl) | rw [if_pos (by omega)] | rw [if_neg (by omega)]))
        try simp only [Act.put, List.getElem_toArray, List.getElem_cons_succ, List.getElem_cons_zero, List.setIfInBounds_toArray, List.set_cons_zero, List.set_cons_succ]
        refine stage_read (i := 1) (v := ?_) rfl (by kernel_rfl) (by kernel_rfl) (by kernel_rfl) (by kernel_rfl) (by kernel_rfl) (by kernel_rfl) (fun _ _ _ h => h) (Or.inl ⟨by kernel_rfl, ?_⟩) ?_
        rotate_left
        · (intro wS hwS; obtain ⟨hcS, hfS, hhS⟩ := bcell hwS; go_simp; try (first | (with_reducible rfl) | rw [if_pos (by omega)] | rw [if_neg (by omega)]))
        try simp only [Act.put, List.getElem_toArray, List.getElem_cons_succ, List.getElem_cons_zero, List.setIfInBounds_toArray, List.set_cons_zero, List.set_cons_succ]
        refine stage_read (i := 2) (v := ?_) rfl (by kernel_rfl) (by kernel_rfl) (by kernel_rfl) (by kernel_rfl) (by kernel_rfl) (by kernel_rfl) (fun _ _ _ h => h) (Or.inl ⟨by kernel_rfl, ?_⟩) ?_
        rotate_left
        · (intro wS hwS; obtain ⟨hcS, hfS, hhS⟩ := bcell hwS; go_simp; try (first | (with_reducible rfl) | rw [if_pos (by omega)] | rw [if_neg (by omega)]))
        try simp only [Act.put, List.getElem_toArray, List.getElem_cons_succ, List.getElem_cons_zero, List.setIfInBounds_toArray, List.set_cons_zero, List.set_cons_succ]
        refine stage_read (i := 3) (v := ?_) rfl (by kernel_rfl) (by kernel_rfl) (by kernel_rfl) (by kernel_rfl) (by kernel_rfl) (by kernel_rfl) (fun _ _ _ h => h) (Or.inl ⟨by kernel_rfl, ?_⟩) ?_
        rotate_left
        · (intro wS hwS; obtain ⟨hcS, hfS, hhS⟩ := bcell hwS; go_simp; try (first | (with_reducible rfl) | rw [if_pos (by omega)] | rw [if_neg (by omega)]))
        try simp only [Act.put, List.getElem_toArray, List.getElem_cons_succ, List.getElem_cons_zero, List.setIfInBounds_toArray, List.set_cons_zero, List.set_cons_succ]
        refine stage_read (i := 4) (v := ?_) rfl (by kernel_rfl) (by kernel_rfl) (by kernel_rfl) (by kernel_rfl) (by kernel_rfl) (by kernel_rfl) (fun _ _ _ h => h) (Or.inl ⟨by kernel_rfl, ?_⟩) ?_
        rotate_left
        · (intro wS hwS; obtain ⟨hcS, hfS, hhS⟩ := bcell hwS; go_simp; try (first | (with_reducible rfl) | rw [if_pos (by omega)] | rw [if_neg (by omega)]))
        try simp only [Act.put, List.getElem_toArray, List.getElem_cons_succ, List.getElem_cons_zero, List.setIfInBounds_toArray, List.set_cons_zero, List.set_cons_succ]
        refine stage_read (i := 5) (v := ?_) rfl (by kernel_rfl) (by kernel_rfl) (by kernel_rfl) (by kernel_rfl) (by kernel_rfl) (by kernel_rfl) (fun _ _ _ h => h) (Or.inl ⟨by kernel_rfl, ?_⟩) ?_
        rotate_left
        · (intro wS hwS; obtain ⟨hcS, hfS, hhS⟩ := bcell hwS; go_simp; try (first | (with_reducible rfl) | rw [if_pos (by omega)] | rw [if_neg (by omega)]))
        try simp only [Act.put, List.getElem_toArray, List.getElem_cons_succ, List.getElem_cons_zero, List.setIfInBounds_toArray, List.set_cons_zero, List.set_cons_succ]
        refine stage_read (i := 6) (v := ?_) rfl (by kernel_rfl) (by kernel_rfl) (by kernel_rfl) (by kernel_rfl) (by kernel_rfl) (by kernel_rfl) (fun _ _ _ h => h) (Or.inl ⟨by kernel_rfl, ?_⟩) ?_
        rotate_left
        · (intro wS hwS; obtain ⟨hcS, hfS, hhS⟩ := bcell hwS; go_simp; try (first | (with_reducible rfl) | rw [if_pos (by omega)] | rw [if_neg (by omega)]))
        try simp only [Act.put, List.getElem_toArray, List.getElem_cons_succ, List.getElem_cons_zero, List.setIfInBounds_toArray, List.set_cons_zero, List.set_cons_succ]
        refine stage_read (i := 7) (v := ?_) rfl (by kernel_rfl) (by kernel_rfl) (by kernel_rfl) (by kernel_rfl) (by kernel_rfl) (by kernel_rfl) (fun _ _ _ h => h) (Or.inl ⟨by kernel_rfl, ?_⟩) ?_
        rotate_left
        · (intro wS hwS; obtain ⟨hcS, hfS, hhS⟩ := bcell hwS; go_simp; try (first | (with_reducible rfl) | rw [if_pos (by omega)] | rw [if_neg (by omega)]))
        try simp only [Act.put, List.getElem_toArray, List.getElem_cons_succ, List.getElem_cons_zero, List.setIfInBounds_toArray, List.set_cons_zero, List.set_cons_succ]
        refine stage_read (i := 8) (v := ?_) rfl (by kernel_rfl) (by kernel_rfl) (by kernel_rfl) (by kernel_rfl) (by kernel_rfl) (by kernel_rfl) (fun _ _ _ h => h) (Or.inl ⟨by kernel_rfl, ?_⟩) ?_
        rotate_left
        · (intro wS hwS; obtain ⟨hcS, hfS, hhS⟩ := bcell hwS; go_simp; try (first | (with_reducible rfl) | rw [if_pos (by omega)] | rw [if_neg (by omega)]))
        try simp only [Act.put, List.getElem_toArray, List.getElem_cons_succ, List.getElem_cons_zero, List.setIfInBounds_toArray, List.set_cons_zero, List.set_cons_succ]
        refine stage_read (i := 10) (v := ?_) rfl (by kernel_rfl) (by kernel_rfl) (by kernel_rfl) (by kernel_rfl) (by kernel_rfl) (by kernel_rfl) (fun _ _ _ h => h) (Or.inl ⟨by kernel_rfl, ?_⟩) ?_
        rotate_left
        · (intro wS hwS; obtain ⟨hcS, hfS, hhS⟩ := bcell hwS; go_simp; try (first | (with_reducible rfl) | rw [if_pos (by omega)] | rw [if_neg (by omega)]))
        try simp only [Act.put, List.getElem_toArray, List.getElem_cons_succ, List.getElem_cons_zero, List.setIfInBounds_toArray, List.set_cons_zero, List.set_cons_succ]
        refine stage_one 9 (by kernel_rfl) rfl (by kernel_rfl) (fun K hK => ?_)
        go_simp
        refine (clone_any fA' m fc (fb.take m) w4 hrt (by omega)).mono ?_
        rintro z w5 ⟨A5, c5, rfl, hown5, hb5⟩
        refine hK.out _ _ (hb5) ?_
        clear hK K
        try simp only [Act.put, List.getElem_toArray, List.getElem_cons_succ, List.getElem_cons_zero, List.setIfInBounds_toArray, List.set_cons_zero, List.set_cons_succ]
        replace h := h.step hb5
        have HM := Lib.hid (HM.out.below hb5)
        obtain ⟨P, hP⟩ := own_pair hown5
        subst hP
        clear hb5 x0 x1 x2 x3 xf y0 y1 yf l1 l6 hfo2 hrt h6
        obtain ⟨⟨x0, x1, x2, x3⟩, xf⟩ := at4 h.at_
        have l1 := h.lt.1
        obtain ⟨w6, hrun, hd6, hG6⟩ := h.store ⟨fk, fb.take m, P, m, c5, (m : Int)⟩ hfkm (lt_maxN (by omega)) ⟨own_lower (show World.ownsRow _ _ _ _ _ _ _ from hown5) (Nat.zero_le _), by show (0 : Int) ≤ (m : Int); omega, by show (m : Int) ≤ (((fb.take m).length : Nat) : Int); rw [List.length_take]; omega⟩
        unfold Fi.val Fi.addr at hrun
        dsimp only at hrun
        have HR := Lib.hid hrun
        clear hrun
        refine stage_read (i := 11) (v := ?_) rfl (by kernel_rfl) (by kernel_rfl) (by kernel_rfl) (by kernel_rfl) (by kernel_rfl) (by kernel_rfl) (fun _ _ _ h => h) (Or.inl ⟨by kernel_rfl, ?_⟩) ?_
        rotate_left
        · (intro wS hwS; obtain ⟨hcS, hfS, hhS⟩ := bcell hwS; go_simp; try (first | (with_reducible rfl) | rw [if_pos (by omega)] | rw [if_neg (by omega)]))
        try simp only [Act.put, List.getElem_toArray, List.getElem_cons_succ, List.getElem_cons_zero, List.setIfInBounds_toArray, List.set_cons_zero, List.set_cons_succ]
        have hrun := HR.out
        refine stage_end (by kernel_rfl) rfl (fun K hK => ?_)
        go_simp
        refine hK.out _ _ ?_
        clear hK K
        try simp only [Act.put, List.getElem_toArray, List.getElem_cons_succ, List.getElem_cons_zero, List.setIfInBounds_toArray, List.set_cons_zero, List.set_cons_succ]
        first | refine wpAnyT_done (by kernel_rfl) ?_ _ | refine wpAny_done (by kernel_rfl) ?_ _
        have hm6 := HM.out.grown hG6 (fun i o _ _ e => Option.some.inj e.symm)
        have HD := Lib.hid hd6
        have HM6 := Lib.hid hm6
        clear x0 x1 x2 x3 xf l1 h hown5 hrun hG6 HM hd6 hm6
        go_wp2_with fail
        go_roundw
        case rel => exact ⟨k + 1, p ++ [⟨fk, fb.take m, P, m, c5, (m : Int)⟩], by go_num, by omega, by rw [List.map_append, HP.out, HCS.out]; rfl, by have e := HD.out; rw [HPM.out ⟨fk, fb.take m, P, m, c5, (m : Int)⟩ rfl] at e; rw [List.append_assoc]; exact e, HM6.out⟩
        case measure => simp [intOf]; omega
      ·
        have hk2 : ¬ k < ks.length := by omega
        rw [dif_neg hk2] at hm0
        have hSm : m = S := by omega
        subst hSm
        go_upto_region 7 with fail
        clear y0 y1 yf
        refine region_any (by kernel_rfl) ?_
        change wpAny _ _ _ _ _ _ _ (World.drew _)
        replace h := h.drew
        replace h6 := h6.drew
        have HM := Lib.hid HM.out.drew
        have hfo2 : OwnB (World.drew w3) 0 fA' fn fc fb := hfo
        clear hfo
        generalize World.drew _ = w4 at *
        have hrt := RdB.take (OwnB.rd hfo2) (k := m) (c' := fc) (by rw [← hln]; exact hml) (by have := (OwnB.rd hfo2).le; omega) (Nat.le_refl _)
        have hle := (OwnB.rd hfo2).le
        have hmx := (OwnB.rd hfo2).max
        unfold maxLen at hmx
        have hmc : m ≤ fc := by omega
        obtain ⟨⟨x0, x1, x2, x3⟩, xf⟩ := at4 h.at_
        obtain ⟨⟨y0, y1⟩, yf⟩ := at2 h6
        have l1 := h.lt.1
        have l6 := h6.lt
        refine stage 12 ?_
        refine stage_read (i := 0) (v := ?_) rfl (by kernel_rfl) (by kernel_rfl) (by kernel_rfl) (by kernel_rfl) (by kernel_rfl) (by kernel_rfl) (fun _ _ _ h => h) (Or.inl ⟨by kernel_rfl, ?_⟩) ?_
        rotate_left
        · (intro wS hwS; obtain ⟨hcS, hfS, hhS⟩ := bcell hwS; go_simp; try (first | (with_reducible rfl) | rw [if_pos (by omega)] | rw [if_neg (by omega)]))
        try simp only [Act.put, List.getElem_toArray, List.getElem_cons_succ, List.getElem_cons_zero, List.setIfInBounds_toArray, List.set_cons_zero, List.set_cons_succ]
        refine stage_read (i := 1) (v := ?_) rfl (by kernel_rfl) (by kernel_rfl) (by kernel_rfl) (by kernel_rfl) (by kernel_rfl) (by kernel_rfl) (fun _ _ _ h => h) (Or.inl ⟨by kernel_rfl, ?_⟩) ?_
        rotate_left
        · (intro wS hwS; obtain ⟨hcS, hfS, hhS⟩ := bcell hwS; go_simp; try (first | (with_reducible rfl) | rw [if_pos (by omega)] | rw [if_neg (by omega)]))
        try simp only [Act.put, List.getElem_toArray, List.getElem_cons_succ, List.getElem_cons_zero, List.setIfInBounds_toArray, List.set_cons_zero, List.set_cons_succ]
        refine stage_read (i := 2) (v := ?_) rfl (by kernel_rfl) (by kernel_rfl) (by kernel_rfl) (by kernel_rfl) (by kernel_rfl) (by kernel_rfl) (fun _ _ _ h => h) (Or.inl ⟨by kernel_rfl, ?_⟩) ?_
        rotate_left
        · (intro wS hwS; obtain ⟨hcS, hfS, hhS⟩ := bcell hwS; go_simp; try (first | (with_reducible rfl) | rw [if_pos (by omega)] | rw [if_neg (by omega)]))
        try simp only [Act.put, List.getElem_toArray, List.getElem_cons_succ, List.getElem_cons_zero, List.setIfInBounds_toArray, List.set_cons_zero, List.set_cons_succ]
        refine stage_read (i := 3) (v := ?_) rfl (by kernel_rfl) (by kernel_rfl) (by kernel_rfl) (by kernel_rfl) (by kernel_rfl) (by kernel_rfl) (fun _ _ _ h => h) (Or.inl ⟨by kernel_rfl, ?_⟩) ?_
        rotate_left
        · (intro wS hwS; obtain ⟨hcS, hfS, hhS⟩ := bcell hwS; go_simp; try (first | (with_reducible rfl) | rw [if_pos (by omega)] | rw [if_neg (by omega)]))
        try simp only [Act.put, List.getElem_toArray, List.getElem_cons_succ, List.getElem_cons_zero, List.setIfInBounds_toArray, List.set_cons_zero, List.set_cons_succ]
        refine stage_read (i := 4) (v := ?_) rfl (by kernel_rfl) (by kernel_rfl) (by kernel_rfl) (by kernel_rfl) (by kernel_rfl) (by kernel_rfl) (fun _ _ _ h => h) (Or.inl ⟨by kernel_rfl, ?_⟩) ?_
        rotate_left
        · (intro wS hwS; obtain ⟨hcS, hfS, hhS⟩ := bcell hwS; go_simp; try (first | (with_reducible rfl) | rw [if_pos (by omega)] | rw [if_neg (by omega)]))
        try simp only [Act.put, List.getElem_toArray, List.getElem_cons_succ, List.getElem_cons_zero, List.setIfInBounds_toArray, List.set_cons_zero, List.set_cons_succ]
        refine stage_read (i := 5) (v := ?_) rfl (by kernel_rfl) (by kernel_rfl) (by kernel_rfl) (by kernel_rfl) (by kernel_rfl) (by kernel_rfl) (fun _ _ _ h => h) (Or.inl ⟨by kernel_rfl, ?_⟩) ?_
        rotate_left
        · (intro wS hwS; obtain ⟨hcS, hfS, hhS⟩ := bcell hwS; go_simp; try (first | (with_reducible rfl) | rw [if_pos (by omega)] | rw [if_neg (by omega)]))
        try simp only [Act.put, List.getElem_toArray, List.getElem_cons_succ, List.getElem_cons_zero, List.setIfInBounds_toArray, List.set_cons_zero, List.set_cons_succ]
        refine stage_read (i := 6) (v := ?_) rfl (by kernel_rfl) (by kernel_rfl) (by kernel_rfl) (by kernel_rfl) (by kernel_rfl) (by kernel_rfl) (fun _ _ _ h => h) (Or.inl ⟨by kernel_rfl, ?_⟩) ?_
        rotate_left
        · (intro wS hwS; obtain ⟨hcS, hfS, hhS⟩ := bcell hwS; go_simp; try (first | (with_reducible rfl) | rw [if_pos (by omega)] | rw [if_neg (by omega)]))
        try simp only [Act.put, List.getElem_toArray, List.getElem_cons_succ, List.getElem_cons_zero, List.setIfInBounds_toArray, List.set_cons_zero, List.set_cons_succ]
        refine stage_read (i := 7) (v := ?_) rfl (by kernel_rfl) (by kernel_rfl) (by kernel_rfl) (by kernel_rfl) (by kernel_rfl) (by kernel_rfl) (fun _ _ _ h => h) (Or.inl ⟨by kernel_rfl, ?_⟩) ?_
        rotate_left
        · (intro wS hwS; obtain ⟨hcS, hfS, hhS⟩ := bcell hwS; go_simp; try (first | (with_reducible rfl) | rw [if_pos (by omega)] | rw [if_neg (by omega)]))
        try simp only [Act.put, List.getElem_toArray, List.getElem_cons_succ, List.getElem_cons_zero, List.setIfInBounds_toArray, List.set_cons_zero, List.set_cons_succ]
        refine stage_read (i := 8) (v := ?_) rfl (by kernel_rfl) (by kernel_rfl) (by kernel_rfl) (by kernel_rfl) (by kernel_rfl) (by kernel_rfl) (fun _ _ _ h => h) (Or.inl ⟨by kernel_rfl, ?_⟩) ?_
        rotate_left
        · (intro wS hwS; obtain ⟨hcS, hfS, hhS⟩ := bcell hwS; go_simp; try (first | (with_reducible rfl) | rw [if_pos (by omega)] | rw [if_neg (by omega)]))
        try simp only [Act.put, List.getElem_toArray, List.getElem_cons_succ, List.getElem_cons_zero, List.setIfInBounds_toArray, List.set_cons_zero, List.set_cons_succ]
        refine stage_read (i := 10) (v := ?_) rfl (by kernel_rfl) (by kernel_rfl) (by kernel_rfl) (by kernel_rfl) (by kernel_rfl) (by kernel_rfl) (fun _ _ _ h => h) (Or.inl ⟨by kernel_rfl, ?_⟩) ?_
        rotate_left
        · (intro wS hwS; obtain ⟨hcS, hfS, hhS⟩ := bcell hwS; go_simp; try (first | (with_reducible rfl) | rw [if_pos (by omega)] | rw [if_neg (by omega)]))
        try simp only [Act.put, List.getElem_toArray, List.getElem_cons_succ, List.getElem_cons_zero, List.setIfInBounds_toArray, List.set_cons_zero, List.set_cons_succ]
        refine stage_one 9 (by kernel_rfl) rfl (by kernel_rfl) (fun K hK => ?_)
        go_simp
        refine (clone_any fA' m fc (fb.take m) w4 hrt (by omega)).mono ?_
        rintro z w5 ⟨A5, c5, rfl, hown5, hb5⟩
        refine hK.out _ _ (hb5) ?_
        clear hK K
        try simp only [Act.put, List.getElem_toArray, List.getElem_cons_succ, List.getElem_cons_zero, List.setIfInBounds_toArray, List.set_cons_zero, List.set_cons_succ]
        replace h := h.step hb5
        have HM := Lib.hid (HM.out.below hb5)
        obtain ⟨P, hP⟩ := own_pair hown5
        subst hP
        clear hb5 x0 x1 x2 x3 xf y0 y1 yf l1 l6 hfo2 hrt h6
        obtain ⟨⟨x0, x1, x2, x3⟩, xf⟩ := at4 h.at_
        have l1 := h.lt.1
        obtain ⟨w6, hrun, hd6, hG6⟩ := h.store ⟨fk, fb.take m, P, m, c5, (m : Int)⟩ hfkm (lt_maxN (by omega)) ⟨own_lower (show World.ownsRow _ _ _ _ _ _ _ from hown5) (Nat.zero_le _), by show (0 : Int) ≤ (m : Int); omega, by show (m : Int) ≤ (((fb.take m).length : Nat) : Int); rw [List.length_take]; omega⟩
        unfold Fi.val Fi.addr at hrun
        dsimp only at hrun
        have HR := Lib.hid hrun
        clear hrun
        refine stage_read (i := 11) (v := ?_) rfl (by kernel_rfl) (by kernel_rfl) (by kernel_rfl) (by kernel_rfl) (by kernel_rfl) (by kernel_rfl) (fun _ _ _ h => h) (Or.inl ⟨by kernel_rfl, ?_⟩) ?_
        rotate_left
        · (intro wS hwS; obtain ⟨hcS, hfS, hhS⟩ := bcell hwS; go_simp; try (first | (with_reducible rfl) | rw [if_pos (by omega)] | rw [if_neg (by omega)]))
        try simp only [Act.put, List.getElem_toArray, List.getElem_cons_succ, List.getElem_cons_zero, List.setIfInBounds_toArray, List.set_cons_zero, List.set_cons_succ]
        have hrun := HR.out
        refine stage_end (by kernel_rfl) rfl (fun K hK => ?_)
        go_simp
        refine hK.out _ _ ?_
        clear hK K
        try simp only [Act.put, List.getElem_toArray, List.getElem_cons_succ, List.getElem_cons_zero, List.setIfInBounds_toArray, List.set_cons_zero, List.set_cons_succ]
        first | refine wpAnyT_done (by kernel_rfl) ?_ _ | refine wpAny_done (by kernel_rfl) ?_ _
        have hm6 := HM.out.grown hG6 (fun i o _ _ e => Option.some.inj e.symm)
        have HD := Lib.hid hd6
        have HM6 := Lib.hid hm6
        clear x0 x1 x2 x3 xf l1 h hown5 hrun hG6 HM hd6 hm6
        go_wp2_with fail
        go_roundw
        case rel => exact ⟨k + 1, p ++ [⟨fk, fb.take m, P, m, c5, (m : Int)⟩], by go_num, by omega, by rw [List.map_append, HP.out, HCS.out]; rfl, by have e := HD.out; rw [HPM.out ⟨fk, fb.take m, P, m, c5, (m : Int)⟩ rfl] at e; rw [List.append_assoc]; exact e, HM6.out⟩
        case measure => simp [intOf]; omega
    · obtain rfl : k = l.length := by omega
      have hpp : p.map Fi.core = crashF ks 0 l := by rw [hp, List.take_of_length_le (by rw [crashF_length]; exact Nat.le_refl _)]
      rw [List.drop_length, List.append_nil] at h
      obtain ⟨hat, hG⟩ := At.many [(1, .bool false), (2, .bool false), (3, .int .i64 0)] h.at_
      dsimp only [setMany, setL, List.set] at hat hG
      have hfin := h.turn hG hat (by omega)
      have hmf := ((HM1.out.trans hm).mono (N := fun i _ => i = b) (M := fun i _ => i = g ∨ i = b) (fun i o _ _ e => .inr e)).grown hG (fun i o _ _ e => .inl (Option.some.inj e).symm)
      obtain ⟨⟨x0, x1, x2, x3⟩, xf0, xf1, xf2, xf3⟩ := at4 h.at_
      have HD := Lib.hid hfin
      have HMF := Lib.hid hmf
      have HPP := Lib.hid hpp
      clear hfin hmf hpp hp h hat hG hm
      go_wp2_with fail
      go_end0
      exact ⟨rfl, HMF.out, p, HPP.out, HD.out⟩
end
end Go.Proofs.Ytmoijbknjadeeaa
