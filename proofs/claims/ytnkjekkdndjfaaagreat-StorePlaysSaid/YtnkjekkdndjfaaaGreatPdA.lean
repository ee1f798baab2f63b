
/- Chapter 6: what each operation does, of the program and of the document, in one form. -/
import Derived.Test.YtnkjekkdndjfaaaGreatRfA
import Derived.Test.YtnkjekkdndjfaaaGreatDkB
namespace Go.Proofs.YtnkjekkdndjfaaaGreat
set_option linter.unusedVariables false
set_option linter.unusedSimpArgs false
open Go.RowKit
theorem findF_least {x : Fi} {l : List Fi} (h : AscF (x :: l)) {k : ByteArray} (hk : kless k x.k = true ∨ k = x.k) : findF l k = none := by
  unfold AscF at h
  rw [List.pairwise_cons] at h
  refine findF_ne fun c hc => ?_
  have h1 := h.1 c hc
  rcases hk with hk | rfl
  · exact (kless_ne (kless_trans hk h1)).symm
  · exact (kless_ne h1).symm
theorem findF_cons (x : Fi) (l : List Fi) (k : ByteArray) : findF (x :: l) k = if x.k = k then some x else findF l k := by
  unfold findF
  rw [List.find?_cons]
  by_cases h : x.k = k
  · rw [if_pos h, decide_eq_true h]
  · rw [if_neg h, decide_eq_false h]
theorem ascF_ext : ∀ {a b : List Fi}, AscF a → AscF b → (∀ k, findF a k = findF b k) → a = b
  | [], [], _, _, _ => rfl
  | [], y :: b, _, _, h => by have := h y.k; rw [findF_cons, if_pos rfl] at this; cases this
  | x :: a, [], _, _, h => by have := h x.k; rw [findF_cons, if_pos rfl] at this; cases this
  | x :: a, y :: b, ha, hb, h => by
    have hxy : x = y := by
      rcases kless_tri x.k y.k with h1 | h1 | h1
      · have h2 := h x.k
        rw [findF_cons, if_pos rfl, findF_cons, if_neg (kless_ne h1).symm, findF_least hb (.inl h1)] at h2
        cases h2
      · have h2 := h x.k
        rw [findF_cons, if_pos rfl, findF_cons, if_pos h1.symm] at h2
        exact Option.some.inj h2
      · have h2 := h y.k
        rw [findF_cons, findF_cons, if_pos rfl, if_neg (kless_ne h1).symm, findF_least ha (.inl h1)] at h2
        cases h2
    subst hxy
    have ha2 := ha
    have hb2 := hb
    unfold AscF at ha2 hb2
    rw [List.pairwise_cons] at ha2 hb2
    rw [ascF_ext (a := a) (b := b) ha2.2 hb2.2 fun k => by
      by_cases hk : x.k = k
      · rw [findF_least ha (.inr hk.symm), findF_least hb (.inr hk.symm)]
      · have := h k
        rw [findF_cons, findF_cons, if_neg hk, if_neg hk] at this
        exact this]
theorem ren_comm {l : List Fi} (e f : Fi) (ha : AscF l) (hne : f.k ≠ e.k) : applyF e true (applyF f false l) = applyF f false (applyF e true l) := by
  refine ascF_ext (applyF_asc _ _ (applyF_asc _ _ ha)) (applyF_asc _ _ (applyF_asc _ _ ha)) fun k => ?_
  rw [findF_apply e true (applyF_asc _ _ ha), findF_apply f false ha, findF_apply f false (applyF_asc _ _ ha), findF_apply e true ha]
  simp only [if_true, Bool.false_eq_true, if_false]
  by_cases h1 : k = e.k
  · rw [if_pos h1, if_neg (fun h => hne (h.symm.trans h1)), if_pos h1]
  · rw [if_neg h1, if_neg h1]
def PR (w w' : World) (gd bd N : Nat) (armed : Bool) (code : Int) (core : List Fi) (lost' : Bool) (left' : Int) (x : Ending) : Prop :=
  x = .returned (.int .i64 code) ∧ Mod (fun i _ => i = gd ∨ i = bd) w w' ∧ ∃ l', l'.flatMap Fi.row = core.flatMap Fi.row ∧ IsDk w' gd bd (N + 1) l' lost' armed left'
def RR (w w' : World) (gr : Nat) (armed : Bool) (code : Int) (core : List Fi) (lost' : Bool) (left' : Int) (x : Ending) : Prop :=
  x = .returned (.int .i64 code) ∧ Mod (fun i _ => i = gr) w w' ∧ IsRf w' gr core lost' (rl armed left')
theorem IsRf.same {w : World} {g : Nat} {l l' : List Fi} {gone : Bool} {left : Int} (h : IsRf w g l gone left) (hr : l'.flatMap Fi.row = l.flatMap Fi.row) : IsRf w g l' gone left := by
  obtain ⟨A, c, h1, h2⟩ := h.ex
  have hl : l'.length = l.length := by
    have := congrArg List.length hr
    rw [flat_length Fi.row_length, flat_length Fi.row_length] at this
    omega
  exact ⟨A, c, by rw [hl]; exact h1, by unfold OwnRF; rw [hl, hr]; exact h2⟩
structure Out where
  code : Int
  core : List Fi
  lost : Bool
  left : Int
section
variable {gd bd N gr : Nat} {l : List Fi} {lost armed : Bool} {left : Int}
def apO (k : ByteArray) (b : List UInt8) (l : List Fi) (lost armed : Bool) (left : Int) : Out :=
  if k.size = 0 then ⟨1, l, lost, left⟩ else
  ⟨(wrP lost armed left).code, if lost then l else applyF ⟨k, (getF l k).b ++ b, none, 0, 0, (getF l k).s⟩ false l, (wrP lost armed left).lost, (wrP lost armed left).left⟩
def goO (l : List Fi) (k : ByteArray) (lost armed : Bool) (left : Int) (bad : Bool) (new : List Fi) : Out :=
  if (findF l k).isSome = false then ⟨6, l, lost, left⟩ else if bad then ⟨1, l, lost, left⟩ else
  ⟨(wrP lost armed left).code, if (wrP lost armed left).code = 0 then new else l, (wrP lost armed left).lost, (wrP lost armed left).left⟩
def syO (k : ByteArray) (l : List Fi) (lost armed : Bool) (left : Int) : Out := goO l k lost armed left false (applyF ⟨k, (getF l k).b, none, 0, 0, ((getF l k).b.length : Int)⟩ false l)
def rmO (k : ByteArray) (l : List Fi) (lost armed : Bool) (left : Int) : Out := goO l k lost armed left false (withoutF l k)
def cuO (k : ByteArray) (m : Int) (l : List Fi) (lost armed : Bool) (left : Int) : Out := goO l k lost armed left (decide (m < 0) || decide (((getF l k).b.length : Int) < m)) (applyF ⟨k, (getF l k).b.take m.toNat, none, 0, 0, m⟩ false l)
def reO (k to : ByteArray) (l : List Fi) (lost armed : Bool) (left : Int) : Out := goO l k lost armed left (decide (to.size = 0) || decide (to = k)) (applyF ⟨to, (getF l k).b, none, 0, 0, (getF l k).s⟩ false (withoutF l k))
theorem mod_of_below {w w' : World} {M : Nat → Obj → Prop} (h : Below w.heap.size w w') : Mod M w w' := (Mod.refl M w).below h
theorem pr_below {w w' : World} {code : Int} (h : IsDk w' gd bd N l lost armed left) (hb : Below w.heap.size w w') : PR w w' gd bd N armed code l lost left (.returned (.int .i64 code)) := ⟨rfl, mod_of_below hb, l, rfl, h.more (Nat.le_succ _)⟩
theorem papp (k : ByteArray) (hkm : k.size ≤ maxLen) (A : Option Addr) (n c : Nat) (y : List UInt8) (w : World) (h : IsDk w gd bd N l lost armed left) (hr : ∀ v, w.grownBy v (some gd) → RdB v v.heap.size A n c y) (hn : n ≤ 100000000) (hN : N < 1000000) (hsz : ∀ x ∈ l, x.b.length ≤ 100000000) :
    Calls Tryz.prog 9 #[.pointer (some ⟨gd, 0, none⟩), .string k, .slice A n c] w fun x w' => PR w w' gd bd N armed (apO k y l lost armed left).code (apO k y l lost armed left).core (apO k y l lost armed left).lost (apO k y l lost armed left).left x := by
  unfold apO
  by_cases hk : k.size = 0
  · rw [if_pos hk]
    refine (append_empty k hk A n c w).mono ?_
    rintro x w' ⟨rfl, rfl⟩
    exact pr_below h (Below.refl _ _)
  · rw [if_neg hk]
    cases lost with
    | true =>
      refine (append_lost k (by omega) A n c w h).mono ?_
      rintro x w' ⟨rfl, h1, hG⟩
      exact ⟨rfl, grown_mod' hG, l, rfl, h1.more (Nat.le_succ _)⟩
    | false =>
      refine (append_yes k (by omega) hkm A n c y w h hr hn hN hsz).mono ?_
      rintro x w' ⟨rfl, hm, P, n', c', h1⟩
      exact ⟨rfl, hm, applyF ⟨k, (getF l k).b ++ y, P, n', c', (getF l k).s⟩ false l, rows_same (e := ⟨k, (getF l k).b ++ y, P, n', c', (getF l k).s⟩) (e' := ⟨k, (getF l k).b ++ y, none, 0, 0, (getF l k).s⟩) rfl rfl rfl false l, h1⟩
theorem rapp (k : ByteArray) (bl : List UInt8) (w : World) (h : IsRf w gr l lost (rl armed left)) (hl : 0 ≤ left ∧ left < 9223372036854775808) (hn : l.length ≤ 1000000) (hsz : (getF l k).b.length + bl.length ≤ 1000000000) :
    Calls Tryz.prog 95 #[.pointer (some ⟨gr, 0, none⟩), .string k, .string ⟨bl.toArray⟩] w fun x w' => RR w w' gr armed (apO k bl l lost armed left).code (apO k bl l lost armed left).core (apO k bl l lost armed left).lost (apO k bl l lost armed left).left x := by
  unfold apO
  by_cases hk : k.size = 0
  · rw [if_pos hk]
    refine (rappend_empty k _ hk w).mono ?_
    rintro x w' ⟨rfl, rfl⟩
    exact ⟨rfl, Mod.refl _ _, h⟩
  · rw [if_neg hk]
    refine (rappend_any k bl (by omega) w h hl hn hsz).mono ?_
    rintro x w' ⟨rfl, hm, h1⟩
    exact ⟨rfl, hm, h1⟩
theorem go_pr {w w' : World} {q : Wr} {new : List Fi} {NL : List Fi → Prop} (hNL : ∀ l', NL l' → l'.flatMap Fi.row = new.flatMap Fi.row) {x : Ending} (h : GoR w w' gd bd N l armed q NL x) : PR w w' gd bd N armed q.code (if q.code = 0 then new else l) q.lost q.left x := by
  obtain ⟨rfl, hm, h1, h2⟩ := h
  by_cases hc : q.code = 0
  · obtain ⟨l', hl', hd⟩ := h2 hc
    rw [if_pos hc]
    exact ⟨rfl, hm, l', hNL l' hl', hd⟩
  · rw [if_neg hc]
    exact ⟨rfl, hm, l, rfl, (h1 hc).more (Nat.le_succ _)⟩
theorem psync (k : ByteArray) (hkm : k.size ≤ maxLen) (w : World) (h : IsDk w gd bd N l lost armed left) (hN : N < 1000000) :
    Calls Tryz.prog 80 #[.pointer (some ⟨gd, 0, none⟩), .string k] w fun x w' => PR w w' gd bd N armed (syO k l lost armed left).code (syO k l lost armed left).core (syO k l lost armed left).lost (syO k l lost armed left).left x := by
  unfold syO goO
  cases hf : (findF l k).isSome with
  | false =>
    simp only [if_true]
    refine (sync_no k hkm w h hf).mono ?_
    rintro x w' ⟨rfl, h1, hb⟩
    exact pr_below h1 hb
  | true =>
    simp only [Bool.true_eq_false, if_false]
    refine (sync_go k hkm w h hf hN).mono fun x w' hg => ?_
    exact go_pr (fun l' hl' => by obtain ⟨P, n, c, rfl⟩ := hl'; exact rows_same (e := ⟨k, (getF l k).b, P, n, c, ((getF l k).b.length : Int)⟩) (e' := ⟨k, (getF l k).b, none, 0, 0, ((getF l k).b.length : Int)⟩) rfl rfl rfl false l) hg
theorem rsync (k : ByteArray) (w : World) (h : IsRf w gr l lost (rl armed left)) (hl : 0 ≤ left ∧ left < 9223372036854775808) (hn : l.length ≤ 1000000) :
    Calls Tryz.prog 93 #[.pointer (some ⟨gr, 0, none⟩), .string k] w fun x w' => RR w w' gr armed (syO k l lost armed left).code (syO k l lost armed left).core (syO k l lost armed left).lost (syO k l lost armed left).left x := by
  unfold syO goO
  cases hf : (findF l k).isSome with
  | false =>
    simp only [if_true]
    refine (rsync_no k w h hf).mono ?_
    rintro x w' ⟨rfl, h1, hb⟩
    exact ⟨rfl, mod_of_below hb, h1⟩
  | true =>
    simp only [Bool.true_eq_false, if_false]
    exact rsync_go k w h hl hf hn
theorem premove (k : ByteArray) (hkm : k.size ≤ maxLen) (w : World) (h : IsDk w gd bd N l lost armed left) :
    Calls Tryz.prog 86 #[.pointer (some ⟨gd, 0, none⟩), .string k] w fun x w' => PR w w' gd bd N armed (rmO k l lost armed left).code (rmO k l lost armed left).core (rmO k l lost armed left).lost (rmO k l lost armed left).left x := by
  unfold rmO goO
  cases hf : (findF l k).isSome with
  | false =>
    simp only [if_true]
    refine (remove_no k hkm w h hf).mono ?_
    rintro x w' ⟨rfl, h1, hb⟩
    exact pr_below h1 hb
  | true =>
    simp only [Bool.true_eq_false, if_false]
    refine (remove_go k hkm w h hf).mono fun x w' hg => ?_
    exact go_pr (fun l' hl' => by obtain ⟨e, he, rfl⟩ := hl'; rw [without_apply, he]) hg
theorem rremove (k : ByteArray) (w : World) (h : IsRf w gr l lost (rl armed left)) (hl : 0 ≤ left ∧ left < 9223372036854775808) (hn : l.length ≤ 1000000) :
    Calls Tryz.prog 98 #[.pointer (some ⟨gr, 0, none⟩), .string k] w fun x w' => RR w w' gr armed (rmO k l lost armed left).code (rmO k l lost armed left).core (rmO k l lost armed left).lost (rmO k l lost armed left).left x := by
  unfold rmO goO
  cases hf : (findF l k).isSome with
  | false =>
    simp only [if_true]
    refine (rremove_no k w h hf).mono ?_
    rintro x w' ⟨rfl, h1, hb⟩
    exact ⟨rfl, mod_of_below hb, h1⟩
  | true =>
    simp only [Bool.true_eq_false, if_false]
    exact rremove_go k w h hl hf hn
theorem pcut (k : ByteArray) (m : Int) (hkm : k.size ≤ maxLen) (w : World) (h : IsDk w gd bd N l lost armed left) (hN : N < 1000000) (hsz : (getF l k).b.length ≤ 100000000) :
    Calls Tryz.prog 87 #[.pointer (some ⟨gd, 0, none⟩), .string k, .int .i64 m] w fun x w' => PR w w' gd bd N armed (cuO k m l lost armed left).code (cuO k m l lost armed left).core (cuO k m l lost armed left).lost (cuO k m l lost armed left).left x := by
  unfold cuO goO
  cases hf : (findF l k).isSome with
  | false =>
    simp only [if_true]
    refine (cut_no k m hkm w h hf).mono ?_
    rintro x w' ⟨rfl, h1, hb⟩
    exact pr_below h1 hb
  | true =>
    simp only [Bool.true_eq_false, if_false]
    by_cases hm : m < 0 ∨ ((getF l k).b.length : Int) < m
    · have hbad : (decide (m < 0) || decide (((getF l k).b.length : Int) < m)) = true := by simpa using hm
      rw [hbad]
      simp only [if_true]
      refine (cut_arg k m hkm w h hf hm).mono ?_
      rintro x w' ⟨rfl, h1, hb⟩
      exact pr_below h1 hb
    · have hbad : (decide (m < 0) || decide (((getF l k).b.length : Int) < m)) = false := by simp; omega
      rw [hbad]
      simp only [Bool.false_eq_true, if_false]
      obtain ⟨j, rfl⟩ := Int.eq_ofNat_of_zero_le (show 0 ≤ m by omega)
      refine (cut_go k j hkm w h hf hN (by omega) hsz).mono fun x w' hg => ?_
      exact go_pr (fun l' hl' => by obtain ⟨P, n, c, rfl⟩ := hl'; exact rows_same (e := ⟨k, (getF l k).b.take j, P, n, c, (j : Int)⟩) (e' := ⟨k, (getF l k).b.take (j : Int).toNat, none, 0, 0, (j : Int)⟩) rfl (by simp) rfl false l) hg
theorem rcut (k : ByteArray) (m : Int) (w : World) (h : IsRf w gr l lost (rl armed left)) (hl : 0 ≤ left ∧ left < 9223372036854775808) (hn : l.length ≤ 1000000) (hsz : (getF l k).b.length ≤ 100000000) :
    Calls Tryz.prog 92 #[.pointer (some ⟨gr, 0, none⟩), .string k, .int .i64 m] w fun x w' => RR w w' gr armed (cuO k m l lost armed left).code (cuO k m l lost armed left).core (cuO k m l lost armed left).lost (cuO k m l lost armed left).left x := by
  unfold cuO goO
  cases hf : (findF l k).isSome with
  | false =>
    simp only [if_true]
    refine (rcut_no k m w h hf).mono ?_
    rintro x w' ⟨rfl, h1, hb⟩
    exact ⟨rfl, mod_of_below hb, h1⟩
  | true =>
    simp only [Bool.true_eq_false, if_false]
    by_cases hm : m < 0 ∨ ((getF l k).b.length : Int) < m
    · have hbad : (decide (m < 0) || decide (((getF l k).b.length : Int) < m)) = true := by simpa using hm
      rw [hbad]
      simp only [if_true]
      refine (rcut_arg k m w h hf hm).mono ?_
      rintro x w' ⟨rfl, h1, hb⟩
      exact ⟨rfl, mod_of_below hb, h1⟩
    · have hbad : (decide (m < 0) || decide (((getF l k).b.length : Int) < m)) = false := by simp; omega
      rw [hbad]
      simp only [Bool.false_eq_true, if_false]
      obtain ⟨j, rfl⟩ := Int.eq_ofNat_of_zero_le (show 0 ≤ m by omega)
      exact rcut_go k j w h hl hf hn (by omega) hsz
theorem prename (k to : ByteArray) (hkm : k.size ≤ maxLen) (htm : to.size ≤ maxLen) (w : World) (h : IsDk w gd bd N l lost armed left) (hN : N < 1000000) :
    Calls Tryz.prog 82 #[.pointer (some ⟨gd, 0, none⟩), .string k, .string to] w fun x w' => PR w w' gd bd N armed (reO k to l lost armed left).code (reO k to l lost armed left).core (reO k to l lost armed left).lost (reO k to l lost armed left).left x := by
  have hasc := h.mp.asc
  unfold reO goO
  cases hf : (findF l k).isSome with
  | false =>
    simp only [if_true]
    refine (rename_no k to hkm w h hf).mono ?_
    rintro x w' ⟨rfl, h1, hb⟩
    exact pr_below h1 hb
  | true =>
    simp only [Bool.true_eq_false, if_false]
    by_cases hm : to.size = 0 ∨ to = k
    · have hbad : (decide (to.size = 0) || decide (to = k)) = true := by simpa using hm
      rw [hbad]
      simp only [if_true]
      refine (rename_arg k to hkm w h hf hm).mono ?_
      rintro x w' ⟨rfl, h1, hb⟩
      exact pr_below h1 hb
    · have hm2 := not_or.1 hm
      have hbad : (decide (to.size = 0) || decide (to = k)) = false := by rw [decide_eq_false hm2.1, decide_eq_false hm2.2]; rfl
      rw [hbad]
      simp only [Bool.false_eq_true, if_false]
      refine (rename_go k to hkm htm w h hf hN (by omega) hm2.2).mono fun x w' hg => ?_
      refine go_pr (fun l' hl' => ?_) hg
      obtain ⟨e, he, P, n, c, rfl⟩ := hl'
      rw [ren_comm e _ hasc (by show to ≠ e.k; rw [he]; exact hm2.2), without_apply, he]
      exact rows_same (e := ⟨to, (getF l k).b, P, n, c, (getF l k).s⟩) (e' := ⟨to, (getF l k).b, none, 0, 0, (getF l k).s⟩) rfl rfl rfl false _
theorem rrename (k to : ByteArray) (w : World) (h : IsRf w gr l lost (rl armed left)) (hl : 0 ≤ left ∧ left < 9223372036854775808) (hn : l.length ≤ 1000000) :
    Calls Tryz.prog 101 #[.pointer (some ⟨gr, 0, none⟩), .string k, .string to] w fun x w' => RR w w' gr armed (reO k to l lost armed left).code (reO k to l lost armed left).core (reO k to l lost armed left).lost (reO k to l lost armed left).left x := by
  unfold reO goO
  cases hf : (findF l k).isSome with
  | false =>
    simp only [if_true]
    refine (rrename_no k to w h hf).mono ?_
    rintro x w' ⟨rfl, h1, hb⟩
    exact ⟨rfl, mod_of_below hb, h1⟩
  | true =>
    simp only [Bool.true_eq_false, if_false]
    by_cases hm : to.size = 0 ∨ to = k
    · have hbad : (decide (to.size = 0) || decide (to = k)) = true := by simpa using hm
      rw [hbad]
      simp only [if_true]
      refine (rrename_arg k to w h hf hm).mono ?_
      rintro x w' ⟨rfl, h1, hb⟩
      exact ⟨rfl, mod_of_below hb, h1⟩
    · have hm2 := not_or.1 hm
      have hbad : (decide (to.size = 0) || decide (to = k)) = false := by rw [decide_eq_false hm2.1, decide_eq_false hm2.2]; rfl
      rw [hbad]
      simp only [Bool.false_eq_true, if_false]
      exact rrename_go k to w h hl hf hn (by omega) hm2.2
end
end Go.Proofs.YtnkjekkdndjfaaaGreat
namespace Go.Proofs.YtnkjekkdndjfaaaGreat
set_option linter.unusedVariables false
set_option linter.unusedSimpArgs false
open Go.RowKit
structure Opr where
  kind : Int
  name : ByteArray
  to : ByteArray
  b : ByteArray
  n : Int
  A : Option Addr
  kn : Nat
  kc : Nat
def Opr.row (o : Opr) : List Value := [.int .i64 o.kind, .string o.name, .string o.to, .string o.b, .int .i64 o.n, .slice o.A o.kn o.kc]
def Opr.v (o : Opr) : Value := .agg #[.int .i64 o.kind, .string o.name, .string o.to, .string o.b, .int .i64 o.n, .slice o.A o.kn o.kc]
theorem Opr.row_length (o : Opr) : o.row.length = 6 := rfl
def Opr.fits (o : Opr) : Prop := (-9223372036854775808 ≤ o.kind ∧ o.kind < 9223372036854775808) ∧ o.name.size ≤ maxLen ∧ o.to.size ≤ maxLen ∧ (-9223372036854775808 ≤ o.n ∧ o.n < 9223372036854775808)
/-- each file's bytes and name are short -/
def Bd (M : Nat) (l : List Fi) : Prop := ∀ x ∈ l, x.b.length ≤ M ∧ x.k.size ≤ maxLen
theorem Bd.mono {M M' : Nat} {l : List Fi} (h : Bd M l) (hM : M ≤ M') : Bd M' l := fun x hx => ⟨Nat.le_trans (h x hx).1 hM, (h x hx).2⟩
theorem rows_core : ∀ {a b : List Fi}, a.flatMap Fi.row = b.flatMap Fi.row → a.map Fi.core = b.map Fi.core
  | [], [], _ => rfl
  | x :: a, [], h => by simp [Fi.row] at h
  | [], y :: b, h => by simp [Fi.row] at h
  | x :: a, y :: b, h => by
    simp only [List.flatMap_cons, Fi.row, List.cons_append, List.nil_append, List.cons.injEq, Value.string.injEq, Value.int.injEq, ByteArray.mk.injEq, true_and] at h
    obtain ⟨h1, h2, h3, h4⟩ := h
    have h5 : x.b = y.b := by have := congrArg Array.toList h2; simpa using this
    rw [List.map_cons, List.map_cons, rows_core h4]
    unfold Fi.core
    rw [h1, h3, h5]
theorem core_rows : ∀ {a b : List Fi}, a.map Fi.core = b.map Fi.core → a.flatMap Fi.row = b.flatMap Fi.row
  | [], [], _ => rfl
  | x :: a, [], h => by simp at h
  | [], y :: b, h => by simp at h
  | x :: a, y :: b, h => by
    rw [List.map_cons, List.map_cons, List.cons.injEq] at h
    rw [List.flatMap_cons, List.flatMap_cons, core_rows h.2]
    have e : x.row = y.row := by
      have h1 := congrArg Fi.row h.1
      exact h1
    rw [e]
theorem bd_core {M : Nat} {a b : List Fi} (h : a.map Fi.core = b.map Fi.core) (hb : Bd M b) : Bd M a := by
  intro x hx
  have h1 : x.core ∈ b.map Fi.core := h ▸ List.mem_map_of_mem hx
  obtain ⟨y, hy, e⟩ := List.mem_map.1 h1
  have e1 : y.b = x.b := (congrArg Fi.b e : y.core.b = x.core.b)
  have e2 : y.k = x.k := (congrArg Fi.k e : y.core.k = x.core.k)
  rw [← e1, ← e2]
  exact hb y hy
theorem get_bd {M : Nat} {l : List Fi} (hb : Bd M l) (k : ByteArray) : (getF l k).b.length ≤ M := by
  unfold getF
  cases hf : findF l k with
  | none => exact Nat.zero_le _
  | some x =>
    unfold findF at hf
    exact (hb x (List.mem_of_find?_eq_some hf)).1
theorem put_len {l : List Fi} (e : Fi) (d : Bool) (h : AscF l) : (applyF e d l).length ≤ l.length + 1 := by
  have := applyF_length e d h
  cases d <;> split at this <;> simp at this <;> omega
theorem bd_put {M : Nat} {l : List Fi} (ha : AscF l) (hb : Bd M l) (e : Fi) (he : e.b.length ≤ M ∧ e.k.size ≤ maxLen) (d : Bool) : Bd M (applyF e d l) := by
  intro x hx
  rcases applyF_mem ha hx with rfl | hx
  · exact he
  · exact hb x hx
theorem without_len (l : List Fi) (k : ByteArray) : (withoutF l k).length ≤ l.length := List.length_filter_le _ _
theorem bd_without {M : Nat} {l : List Fi} (hb : Bd M l) (k : ByteArray) : Bd M (withoutF l k) := fun x hx => hb x (List.mem_filter.1 hx).1
theorem asc_without {l : List Fi} (h : AscF l) (k : ByteArray) : AscF (withoutF l k) := List.Pairwise.filter _ h
def OB (M : Nat) (l : List Fi) (o : Out) : Prop := o.core.length ≤ l.length + 1 ∧ Bd (M + 50) o.core
section
variable {l : List Fi} {lost armed : Bool} {left : Int} {M : Nat}
theorem ob_go (hb : Bd M l) (k : ByteArray) (bad : Bool) {new : List Fi} (hl : new.length ≤ l.length + 1) (hn : Bd (M + 50) new) : OB M l (goO l k lost armed left bad new) := by
  have h0 : OB M l ⟨0, l, false, 0⟩ := ⟨Nat.le_succ _, hb.mono (by omega)⟩
  unfold goO
  split
  · exact h0
  · split
    · exact h0
    · unfold OB
      simp only
      split
      · exact ⟨hl, hn⟩
      · exact h0
theorem ob_ap (ha : AscF l) (hb : Bd M l) (k : ByteArray) (hk : k.size ≤ maxLen) {y : List UInt8} (hy : y.length ≤ 50) : OB M l (apO k y l lost armed left) := by
  have h0 : OB M l ⟨0, l, false, 0⟩ := ⟨Nat.le_succ _, hb.mono (by omega)⟩
  have hg := get_bd hb k
  unfold apO
  split
  · exact h0
  · unfold OB
    simp only
    split
    · exact h0
    · exact ⟨put_len _ _ ha, bd_put ha (hb.mono (by omega)) _ ⟨by simp only [List.length_append]; omega, hk⟩ _⟩
theorem ob_sy (ha : AscF l) (hb : Bd M l) (k : ByteArray) (hk : k.size ≤ maxLen) : OB M l (syO k l lost armed left) :=
  ob_go hb k _ (put_len _ _ ha) (by refine bd_put ha (hb.mono (by omega)) _ ?_ _; exact ⟨Nat.le_trans (get_bd hb k) (Nat.le_add_right _ _), hk⟩)
theorem ob_rm (ha : AscF l) (hb : Bd M l) (k : ByteArray) : OB M l (rmO k l lost armed left) :=
  ob_go hb k _ (Nat.le_trans (without_len l k) (by omega)) (bd_without (hb.mono (by omega)) k)
theorem ob_cu (ha : AscF l) (hb : Bd M l) (k : ByteArray) (m : Int) (hk : k.size ≤ maxLen) : OB M l (cuO k m l lost armed left) :=
  ob_go hb k _ (put_len _ _ ha) (bd_put ha (hb.mono (by omega)) _ ⟨by have := get_bd hb k; simp only [List.length_take]; omega, hk⟩ _)
theorem ob_re (ha : AscF l) (hb : Bd M l) (k to : ByteArray) (hk : to.size ≤ maxLen) : OB M l (reO k to l lost armed left) :=
  ob_go hb k _ (Nat.le_trans (put_len _ _ (asc_without ha k)) (by have := without_len l k; omega)) (by refine bd_put (asc_without ha k) (bd_without (hb.mono (by omega)) k) _ ?_ _; exact ⟨Nat.le_trans (get_bd hb k) (Nat.le_add_right _ _), hk⟩)
end
structure Both (w : World) (gd bd gr N : Nat) (l : List Fi) (lost armed : Bool) (left : Int) (M : Nat) : Prop where
  dk : IsDk w gd bd N l lost armed left
  rf : IsRf w gr l lost (rl armed left)
  sm : Bd M l
section
variable {w w' : World} {gd bd gr N : Nat} {l L : List Fi} {lost armed gone : Bool} {left left2 : Int} {M : Nat}
theorem IsRf.freeAt (h : IsRf w gr L gone left) {i : Nat} {cs : List Value} {t : TypeId} (hx : At w i t cs) (ht : t ≠ 86) : ¬ i = gr := by
  obtain ⟨A, c, h1, h2⟩ := h.ex
  exact isT_at h1 hx (by rfl) ht
theorem IsRf.keep (h : IsRf w gr L gone left) (hd : IsDk w gd bd N l lost armed left2) (hm : Mod (fun i _ => i = gd ∨ i = bd) w w') : IsRf w' gr L gone left := by
  obtain ⟨A, c, h1, h2⟩ := h.ex
  exact ⟨A, c, hm.at h1 (hd.freeAt h1 (by decide)), own_mod h2 hm (fun i o ho _ hit e => hd.free ho hit (by decide) e)⟩
theorem IsDk.keep (h : IsDk w gd bd N l lost armed left2) (hr : IsRf w gr L gone left) (hm : Mod (fun i _ => i = gr) w w') : IsDk w' gd bd N l lost armed left2 := by
  obtain ⟨A, c, h1, h2⟩ := hr.ex
  have hf := h.freeAt h1 (by decide)
  exact ⟨hm.at h.at_ (fun e => hf (.inl e.symm)), h.mp.mod hm (fun _ _ e => hf (.inr e.symm)), fun x hx => ⟨own_mod (show World.ownsRow _ _ _ _ _ _ _ from (h.own x hx).1) hm (fun i o ho _ hit e => isT_at h1 ho hit (by decide) e), (h.own x hx).2⟩, h.ne, h.left0⟩
theorem Both.step (h : Both w gd bd gr N l lost armed left M) (hb : Below w.heap.size w w') : Both w' gd bd gr N l lost armed left M := ⟨h.dk.step hb, h.rf.step hb, h.sm⟩
theorem Both.drew (h : Both w gd bd gr N l lost armed left M) : Both w.drew gd bd gr N l lost armed left M := ⟨h.dk.drew, h.rf.drew, h.sm⟩
def StP (w w' : World) (gd bd gr N : Nat) (l : List Fi) (M : Nat) (x : Ending) : Prop :=
  x = .returned (.bool true) ∧ Mod (fun i _ => i = gd ∨ i = bd ∨ i = gr) w w' ∧ ∃ N' l' lost' armed' left', Both w' gd bd gr N' l' lost' armed' left' (M + 50) ∧ N' ≤ N + 1 + l.length ∧ l'.length ≤ l.length + 1
theorem mod_dk (hm : Mod (fun i _ => i = gd ∨ i = bd) w w') : Mod (fun i _ => i = gd ∨ i = bd ∨ i = gr) w w' := hm.mono fun i o _ _ h => by rcases h with h | h; exact .inl h; exact .inr (.inl h)
theorem mod_rf (hm : Mod (fun i _ => i = gr) w w') : Mod (fun i _ => i = gd ∨ i = bd ∨ i = gr) w w' := hm.mono fun i o _ _ h => .inr (.inr h)
/-- both have done the same -/
theorem both_two {w1 w2 : World} {o : Out} (ho : OB M l o) (hrf : IsRf w1 gr L gone left2) (hm1 : Mod (fun i _ => i = gd ∨ i = bd) w w1) {l' : List Fi} (hl' : l'.flatMap Fi.row = o.core.flatMap Fi.row) (hd : IsDk w1 gd bd (N + 1) l' o.lost armed o.left)
    (hm2 : Mod (fun i _ => i = gr) w1 w2) (hr2 : IsRf w2 gr o.core o.lost (rl armed o.left)) : StP w w2 gd bd gr N l M (.returned (.bool true)) := by
  have hc := rows_core hl'
  refine ⟨rfl, (mod_dk hm1).trans (mod_rf hm2), N + 1, l', o.lost, armed, o.left, ⟨hd.keep hrf hm2, hr2.same hl', bd_core hc ho.2⟩, by omega, ?_⟩
  have := congrArg List.length hc
  rw [List.length_map, List.length_map] at this
  rw [this]
  exact ho.1
end
end Go.Proofs.YtnkjekkdndjfaaaGreat
namespace Go.Proofs.YtnkjekkdndjfaaaGreat
set_option linter.unusedVariables false
set_option linter.unusedSimpArgs false
open Go.RowKit
theorem conv_bytes6 (s : ByteArray) (w : World) (hs : s.size ≤ 1099511627776) : ∃ cap w', (convert 9 22 (.string s)).run Tryz.prog w = .ok (.slice (some ⟨w.heap.size, 0, none⟩) s.size cap) w' ∧ RdB w' w'.heap.size (some ⟨w.heap.size, 0, none⟩) s.size cap s.data.toList ∧ Below w.heap.size w w' := by
  refine ⟨_, _, run_bytes_of_string w _ _ 5 s Tryz.underlying9 Tryz.underlying22 Tryz.underlying5, ?_, (Below.drew (Below.refl _ _)).alloc (Nat.le_refl _) _⟩
  have hsz : s.data.toList.length = s.size := by rw [Array.length_toList]; rfl
  refine ⟨by rw [bys_length, hsz, Nat.mul_one], grownCap_ge _ _ _ _, grownCap_le_maxLen _ _ _ _ (by simp only [maxLen]; omega), fun _ => ⟨_, 0, rfl, by simp, fun j u hu => ?_⟩⟩
  obtain ⟨b, hb, rfl⟩ := bys_get hu
  rw [show (⟨w.heap.size, 0 + j, none⟩ : Addr) = ⟨w.drew.heap.size, j, none⟩ from by simp]
  rw [World.cell?_alloc_mark]
  have hj : j < s.data.size := by have := (List.getElem?_eq_some_iff.1 hb).1; simpa using this
  rw [bytesRow_at s _ j hj]
  rw [Array.getElem?_toList, Array.getElem?_eq_getElem hj] at hb
  injection hb with hb
  rw [hb]
theorem mod_one {w w' : World} {g : Nat} (h : w.grownBy w' (some g)) : Mod (fun i _ => i = g) w w' := (grown_mod h).mono fun i o _ _ e => (Option.some.inj e).symm
theorem flatMap_core : ∀ l : List Fi, (l.map Fi.core).flatMap Fi.row = l.flatMap Fi.row
  | [] => rfl
  | x :: l => by rw [List.map_cons, List.flatMap_cons, List.flatMap_cons, flatMap_core l]; rfl
theorem crash_bd {M : Nat} {ks : List Nat} {l l' : List Fi} (hc : l'.map Fi.core = crashF ks 0 l) (hM : Bd M l) : Bd M l' := by
  intro x hx
  obtain ⟨j, hj, rfl⟩ := List.getElem_of_mem hx
  have hl : l'.length = l.length := by have := congrArg List.length hc; rw [List.length_map, crashF_length] at this; exact this
  have hj2 : j < l.length := by omega
  have e := crashF_at ks 0 j l hj2
  rw [← hc, List.getElem?_map, List.getElem?_eq_getElem hj] at e
  have e2 := Option.some.inj e
  have e3 : (l'[j]).b = (l[j]).b.take (crashN ks (0 + j) l[j]) := (congrArg Fi.b e2 : (l'[j]).core.b = (crashX ks (0 + j) l[j]).b)
  have e4 : (l'[j]).k = (l[j]).k := (congrArg Fi.k e2 : (l'[j]).core.k = (crashX ks (0 + j) l[j]).k)
  rw [e3, e4, List.length_take]
  have := hM l[j] (List.getElem_mem hj2)
  exact ⟨by omega, this.2⟩
end Go.Proofs.YtnkjekkdndjfaaaGreat
namespace Go.Proofs.YtnkjekkdndjfaaaGreat
set_option linter.unusedVariables false
set_option linter.unusedSimpArgs false
open Go.RowKit
theorem findF_core : ∀ (l : List Fi) (k : ByteArray), findF (l.map Fi.core) k = (findF l k).map Fi.core
  | [], k => rfl
  | x :: l, k => by
    rw [List.map_cons, findF_cons, findF_cons, findF_core l k]
    show (if x.k = k then some x.core else _) = _
    split <;> rfl
theorem getF_core (l : List Fi) (k : ByteArray) : getF (l.map Fi.core) k = (getF l k).core := by
  unfold getF
  rw [findF_core]
  cases findF l k <;> rfl
theorem applyF_core (e : Fi) : ∀ (d : Bool) (l : List Fi), (applyF e d l).map Fi.core = applyF e.core d (l.map Fi.core)
  | d, [] => by cases d <;> rfl
  | d, c :: l => by
    rw [List.map_cons, applyF_cons, applyF_cons, List.map_append, List.map_append, applyF_core e _ l]
    show _ = ((if !d && kless e.k c.k then [e.core] else []) ++ (if c.k = e.k then [] else [c.core])) ++ applyF e.core (d || kless e.k c.k) (l.map Fi.core)
    congr 2
    · split <;> rfl
    · split <;> rfl
theorem withoutF_core (l : List Fi) (k : ByteArray) : (withoutF l k).map Fi.core = withoutF (l.map Fi.core) k := by
  unfold withoutF
  rw [List.filter_map]
  rfl
theorem crashF_core (ks : List Nat) : ∀ (i : Nat) (l : List Fi), crashF ks i (l.map Fi.core) = crashF ks i l
  | i, [] => rfl
  | i, x :: l => by rw [List.map_cons, crashF, crashF, crashF_core ks (i + 1) l]; rfl
theorem crashF_cored (ks : List Nat) : ∀ (i : Nat) (l : List Fi), (crashF ks i l).map Fi.core = crashF ks i l
  | i, [] => rfl
  | i, x :: l => by rw [crashF, List.map_cons, crashF_cored ks (i + 1) l]; rfl
def Out.cor (o : Out) : Out := ⟨o.code, o.core.map Fi.core, o.lost, o.left⟩
section
variable {lost armed : Bool} {left : Int}
theorem apO_core (k : ByteArray) (b : List UInt8) (l : List Fi) : (apO k b l lost armed left).cor = apO k b (l.map Fi.core) lost armed left := by
  unfold apO
  split
  · rfl
  · unfold Out.cor
    simp only
    rw [getF_core]
    congr 1
    split
    · rfl
    · rw [applyF_core]; rfl
theorem goO_core (l : List Fi) (k : ByteArray) (bad : Bool) (new : List Fi) : (goO l k lost armed left bad new).cor = goO (l.map Fi.core) k lost armed left bad (new.map Fi.core) := by
  unfold goO
  have e : (findF (l.map Fi.core) k).isSome = (findF l k).isSome := by rw [findF_core]; cases findF l k <;> rfl
  rw [e]
  split
  · rfl
  · split
    · rfl
    · unfold Out.cor
      simp only
      congr 1
      split <;> rfl
theorem syO_core (k : ByteArray) (l : List Fi) : (syO k l lost armed left).cor = syO k (l.map Fi.core) lost armed left := by
  unfold syO; rw [goO_core, applyF_core, getF_core]; rfl
theorem rmO_core (k : ByteArray) (l : List Fi) : (rmO k l lost armed left).cor = rmO k (l.map Fi.core) lost armed left := by
  unfold rmO; rw [goO_core, withoutF_core]
theorem cuO_core (k : ByteArray) (m : Int) (l : List Fi) : (cuO k m l lost armed left).cor = cuO k m (l.map Fi.core) lost armed left := by
  unfold cuO; rw [goO_core, applyF_core, getF_core]; rfl
theorem reO_core (k to : ByteArray) (l : List Fi) : (reO k to l lost armed left).cor = reO k to (l.map Fi.core) lost armed left := by
  unfold reO; rw [goO_core, applyF_core, withoutF_core, getF_core]; rfl
end
/-- a disk as data; each file without where its bytes lie -/
structure PD where
  fs : List Fi
  lost : Bool
  armed : Bool
  left : Int
def PD.new : PD := ⟨[], false, false, 0⟩
def PD.out (d : PD) (o : Out) : PD := ⟨o.core, o.lost, d.armed, o.left⟩
def PD.apO (d : PD) (k : ByteArray) (b : List UInt8) : Out := Proofs.YtnkjekkdndjfaaaGreat.apO k b d.fs d.lost d.armed d.left
def PD.syO (d : PD) (k : ByteArray) : Out := Proofs.YtnkjekkdndjfaaaGreat.syO k d.fs d.lost d.armed d.left
def PD.rmO (d : PD) (k : ByteArray) : Out := Proofs.YtnkjekkdndjfaaaGreat.rmO k d.fs d.lost d.armed d.left
def PD.cuO (d : PD) (k : ByteArray) (m : Int) : Out := Proofs.YtnkjekkdndjfaaaGreat.cuO k m d.fs d.lost d.armed d.left
def PD.reO (d : PD) (k to : ByteArray) : Out := Proofs.YtnkjekkdndjfaaaGreat.reO k to d.fs d.lost d.armed d.left
def PD.arm (d : PD) (n : Int) : PD := ⟨d.fs, d.lost, true, if n < 0 then 0 else n⟩
def PD.crash (d : PD) (ks : List Nat) : PD := ⟨crashF ks 0 d.fs, false, false, 0⟩
def PD.rc (d : PD) (k : ByteArray) : Int := rdCode d.fs d.lost k
def PD.rb (d : PD) (k : ByteArray) : List UInt8 := rdBytes d.fs d.lost k
def PD.su (d : PD) (k : ByteArray) : Int := (getF d.fs k).s
/-- the program's disk -/
def IsD (w : World) (gd bd N : Nat) (d : PD) : Prop := ∃ l, l.map Fi.core = d.fs ∧ IsDk w gd bd N l d.lost d.armed d.left
/-- the document's -/
def IsR (w : World) (gr : Nat) (d : PD) : Prop := IsRf w gr d.fs d.lost (rl d.armed d.left)
/-- what holds of a disk as data -/
structure PD.Ok (d : PD) (M K : Nat) : Prop where
  asc : AscF d.fs
  sm : Bd M d.fs
  len : d.fs.length ≤ K
  left0 : 0 ≤ d.left ∧ d.left < 9223372036854775808
  sure : ∀ x ∈ d.fs, 0 ≤ x.s ∧ x.s ≤ x.b.length
  cor : d.fs.map Fi.core = d.fs
theorem PD.Ok.mono {d : PD} {M K M' K' : Nat} (h : d.Ok M K) (hM : M ≤ M') (hK : K ≤ K') : d.Ok M' K' := ⟨h.asc, h.sm.mono hM, Nat.le_trans h.len hK, h.left0, h.sure, h.cor⟩
theorem PD.Ok.new : PD.new.Ok 0 0 := ⟨by unfold AscF PD.new; simp, (fun x hx => by cases hx), Nat.le_refl _, ⟨by simp [PD.new], by simp [PD.new]⟩, (fun x hx => by cases hx), rfl⟩
theorem asc_core {l : List Fi} (h : AscF l) : AscF (l.map Fi.core) := by
  unfold AscF at *
  rw [List.pairwise_map]
  exact h
theorem core_core (x : Fi) : x.core.core = x.core := rfl
theorem map_core_core (l : List Fi) : (l.map Fi.core).map Fi.core = l.map Fi.core := by rw [List.map_map]; rfl
section
variable {w w' : World} {gd bd gr N M K : Nat} {d : PD}
theorem IsD.step (h : IsD w gd bd N d) (hb : Below w.heap.size w w') : IsD w' gd bd N d := by obtain ⟨l, h1, h2⟩ := h; exact ⟨l, h1, h2.step hb⟩
theorem IsD.drew (h : IsD w gd bd N d) : IsD w.drew gd bd N d := by obtain ⟨l, h1, h2⟩ := h; exact ⟨l, h1, h2.drew⟩
theorem IsD.more {N' : Nat} (h : IsD w gd bd N d) (hN : N ≤ N') : IsD w gd bd N' d := by obtain ⟨l, h1, h2⟩ := h; exact ⟨l, h1, h2.more hN⟩
theorem IsD.lt (h : IsD w gd bd N d) : gd < w.heap.size ∧ bd < w.heap.size := by obtain ⟨l, h1, h2⟩ := h; exact h2.lt
theorem IsD.free (h : IsD w gd bd N d) {i : Nat} {o : Obj} {t : TypeId} (ho : w.heap[i]? = some o) (hit : IsT t o) (ht : t ≠ 92) : ¬ (i = gd ∨ i = bd) := by obtain ⟨l, h1, h2⟩ := h; exact h2.free ho hit ht
theorem IsD.freeAt (h : IsD w gd bd N d) {i : Nat} {cs : List Value} {t : TypeId} (hx : At w i t cs) (ht : t ≠ 92) : ¬ (i = gd ∨ i = bd) := by obtain ⟨l, h1, h2⟩ := h; exact h2.freeAt hx ht
theorem IsR.step (h : IsR w gr d) (hb : Below w.heap.size w w') : IsR w' gr d := IsRf.step h hb
theorem IsR.drew (h : IsR w gr d) : IsR w.drew gr d := IsRf.drew h
theorem IsR.freeAt (h : IsR w gr d) {i : Nat} {cs : List Value} {t : TypeId} (hx : At w i t cs) (ht : t ≠ 86) : ¬ i = gr := IsRf.freeAt h hx ht
theorem IsR.keep {d' : PD} (h : IsR w gr d) (hd : IsD w gd bd N d') (hm : Mod (fun i _ => i = gd ∨ i = bd) w w') : IsR w' gr d := by obtain ⟨l, h1, h2⟩ := hd; exact IsRf.keep h h2 hm
theorem IsD.keep {d' : PD} (h : IsD w gd bd N d) (hr : IsR w gr d') (hm : Mod (fun i _ => i = gr) w w') : IsD w' gd bd N d := by obtain ⟨l, h1, h2⟩ := h; exact ⟨l, h1, h2.keep hr hm⟩
/-- another block is turned -/
theorem IsD.other (h : IsD w gd bd N d) {g : Nat} {t : TypeId} {cs : List Value} (hx : At w g t cs) (ht : t ≠ 92) (ht2 : t ≠ 5) (hm : Mod (fun i _ => i = g) w w') : IsD w' gd bd N d := by
  obtain ⟨l, h1, h2⟩ := h
  have hgn := h2.freeAt hx ht
  exact ⟨l, h1, hm.at h2.at_ (fun e => hgn (.inl e.symm)), h2.mp.mod hm (fun _ _ e => hgn (.inr e.symm)), fun x hq => ⟨own_mod (show World.ownsRow _ _ _ _ _ _ _ from (h2.own x hq).1) hm (fun i o ho _ hit e => isT_at hx ho hit (fun e => ht2 e.symm) e), (h2.own x hq).2⟩, h2.ne, h2.left0⟩
theorem IsR.other (h : IsR w gr d) {g : Nat} {t : TypeId} {cs : List Value} (hx : At w g t cs) (ht : t ≠ 86) (ht2 : t ≠ 88) (hm : Mod (fun i _ => i = g) w w') : IsR w' gr d := by
  have hgr := h.freeAt hx ht
  obtain ⟨A, c, h1, h2⟩ := IsRf.ex h
  exact ⟨A, c, hm.at h1 (fun e => hgr e.symm), own_mod h2 hm (fun i o ho _ hit e => isT_at hx ho hit (fun e => ht2 e.symm) e)⟩
def DP (w w' : World) (gd bd N : Nat) (d : PD) (o : Out) (x : Ending) : Prop := x = .returned (.int .i64 o.code) ∧ Mod (fun i _ => i = gd ∨ i = bd) w w' ∧ IsD w' gd bd (N + 1) (d.out o)
def DR (w w' : World) (gr : Nat) (d : PD) (o : Out) (x : Ending) : Prop := x = .returned (.int .i64 o.code) ∧ Mod (fun i _ => i = gr) w w' ∧ IsR w' gr (d.out o)
theorem dp_of {o o' : Out} (e : o.cor = o') {x : Ending} (h : PR w w' gd bd N d.armed o.code o.core o.lost o.left x) : DP w w' gd bd N d o' x := by
  subst e
  obtain ⟨rfl, hm, l', hl', hd⟩ := h
  exact ⟨rfl, hm, l', rows_core hl', hd⟩
theorem dr_of {o : Out} {x : Ending} (h : RR w w' gr d.armed o.code o.core o.lost o.left x) : DR w w' gr d o x := h
theorem rows_len {a b : List Fi} (h : a.map Fi.core = b) : a.length = b.length := by rw [← h, List.length_map]
theorem pd_bd {l : List Fi} (h : l.map Fi.core = d.fs) (ho : d.Ok M K) : Bd M l := bd_core (h.trans ho.cor.symm) ho.sm
theorem pd_ap (k : ByteArray) (hkm : k.size ≤ maxLen) (A : Option Addr) (n c : Nat) (y : List UInt8) (w : World) (h : IsD w gd bd N d) (ho : d.Ok M K) (hM : M ≤ 100000000) (hr : ∀ v, w.grownBy v (some gd) → RdB v v.heap.size A n c y) (hn : n ≤ 100000000) (hN : N < 1000000) :
    Calls Tryz.prog 9 #[.pointer (some ⟨gd, 0, none⟩), .string k, .slice A n c] w fun x w' => DP w w' gd bd N d (d.apO k y) x := by
  obtain ⟨l, h1, h2⟩ := h
  exact (papp k hkm A n c y w h2 hr hn hN (fun x hx => Nat.le_trans (pd_bd h1 ho x hx).1 hM)).mono fun x w' hp => dp_of (by rw [apO_core, h1]; rfl) hp
theorem pd_sy (k : ByteArray) (hkm : k.size ≤ maxLen) (w : World) (h : IsD w gd bd N d) (hN : N < 1000000) :
    Calls Tryz.prog 80 #[.pointer (some ⟨gd, 0, none⟩), .string k] w fun x w' => DP w w' gd bd N d (d.syO k) x := by
  obtain ⟨l, h1, h2⟩ := h
  exact (psync k hkm w h2 hN).mono fun x w' hp => dp_of (by rw [syO_core, h1]; rfl) hp
theorem pd_rm (k : ByteArray) (hkm : k.size ≤ maxLen) (w : World) (h : IsD w gd bd N d) :
    Calls Tryz.prog 86 #[.pointer (some ⟨gd, 0, none⟩), .string k] w fun x w' => DP w w' gd bd N d (d.rmO k) x := by
  obtain ⟨l, h1, h2⟩ := h
  exact (premove k hkm w h2).mono fun x w' hp => dp_of (by rw [rmO_core, h1]; rfl) hp
theorem pd_cu (k : ByteArray) (m : Int) (hkm : k.size ≤ maxLen) (w : World) (h : IsD w gd bd N d) (ho : d.Ok M K) (hM : M ≤ 100000000) (hN : N < 1000000) :
    Calls Tryz.prog 87 #[.pointer (some ⟨gd, 0, none⟩), .string k, .int .i64 m] w fun x w' => DP w w' gd bd N d (d.cuO k m) x := by
  obtain ⟨l, h1, h2⟩ := h
  exact (pcut k m hkm w h2 hN (Nat.le_trans (get_bd (pd_bd h1 ho) k) hM)).mono fun x w' hp => dp_of (by rw [cuO_core, h1]; rfl) hp
theorem pd_re (k to : ByteArray) (hkm : k.size ≤ maxLen) (htm : to.size ≤ maxLen) (w : World) (h : IsD w gd bd N d) (hN : N < 1000000) :
    Calls Tryz.prog 82 #[.pointer (some ⟨gd, 0, none⟩), .string k, .string to] w fun x w' => DP w w' gd bd N d (d.reO k to) x := by
  obtain ⟨l, h1, h2⟩ := h
  exact (prename k to hkm htm w h2 hN).mono fun x w' hp => dp_of (by rw [reO_core, h1]; rfl) hp
theorem pd_arm (n : Int) (hn : n < 9223372036854775808) (w : World) (h : IsD w gd bd N d) :
    Calls Tryz.prog 15 #[.pointer (some ⟨gd, 0, none⟩), .int .i64 n] w fun x w' => x = .returned (.tuple #[]) ∧ Mod (fun i _ => i = gd ∨ i = bd) w w' ∧ IsD w' gd bd N (d.arm n) := by
  obtain ⟨l, h1, h2⟩ := h
  refine (arm_any n hn w h2).mono ?_
  rintro x w' ⟨rfl, h3, hG⟩
  exact ⟨rfl, grown_mod' hG, l, h1, h3⟩
theorem pd_crash (A : Option Addr) (n c : Nat) (ks : List Nat) (w : World) (h : IsD w gd bd N d) (ho : d.Ok M K) (hM : M ≤ 100000000) (hK : K ≤ 100000) (hN : N ≤ 100000)
    (hkeep : ∀ v, Mod (fun i _ => i = bd) w v → RdK v v.heap.size A n c ks) (hks : ∀ x ∈ ks, x < 65536) :
    Calls Tryz.prog 20 #[.pointer (some ⟨gd, 0, none⟩), .slice A n c] w fun x w' => x = .returned (.tuple #[]) ∧ Mod (fun i _ => i = gd ∨ i = bd) w w' ∧ IsD w' gd bd (N + K) (d.crash ks) := by
  obtain ⟨l, h1, h2⟩ := h
  have hl := rows_len h1
  have hbd := pd_bd h1 ho
  have hlen := ho.len
  refine (crash_any A n c ks w h2 hN (by omega) hkeep hks (fun x hx => ⟨Nat.le_trans (hbd x hx).1 hM, (hbd x hx).2⟩)).mono ?_
  rintro x w' ⟨rfl, hm, l', hl', hd⟩
  exact ⟨rfl, hm, l', by rw [hl', ← crashF_core, h1]; rfl, hd.more (by omega)⟩
theorem pd_rd (k : ByteArray) (hk : k.size ≤ maxLen) (w : World) (h : IsD w gd bd N d) (ho : d.Ok M K) (hM : M ≤ 1099511627776) :
    Calls Tryz.prog 23 #[.pointer (some ⟨gd, 0, none⟩), .string k] w fun x w' => ∃ A n c, x = .returned (.tuple #[.slice A n c, .int .i64 (d.rc k)]) ∧ OwnB w' w.heap.size A n c (d.rb k) ∧ Below w.heap.size w w' := by
  obtain ⟨l, h1, h2⟩ := h
  have hbd := pd_bd h1 ho
  have e1 : rdCode l d.lost k = d.rc k := by unfold PD.rc rdCode; rw [← h1, findF_core]; cases findF l k <;> rfl
  have e2 : rdBytes l d.lost k = d.rb k := by unfold PD.rb rdBytes; rw [← h1, findF_core, getF_core]; cases findF l k <;> rfl
  rw [← e1, ← e2]
  exact dread_any k hk w h2 (fun x hx => Nat.le_trans (hbd x hx).1 hM)
theorem pd_su (k : ByteArray) (hk : k.size ≤ maxLen) (w : World) (h : IsD w gd bd N d) : Calls Tryz.prog 112 #[.pointer (some ⟨gd, 0, none⟩), .string k] w fun x w' => x = .returned (.int .i64 (d.su k)) ∧ w = w' := by
  obtain ⟨l, h1, h2⟩ := h
  have e : (getF l k).s = d.su k := by unfold PD.su; rw [← h1, getF_core]; rfl
  rw [← e]
  exact sure_any k hk w h2
theorem pd_new (w : World) : Calls Tryz.prog 8 #[] w fun r w' => ∃ g b, r = .returned (.pointer (some ⟨g, 0, none⟩)) ∧ IsD w' g b 0 PD.new ∧ w.heap.size ≤ b ∧ b < g ∧ Below w.heap.size w w' := by
  refine (new_dk w).mono ?_
  rintro x w' ⟨g, b, rfl, h1, h2⟩
  exact ⟨g, b, rfl, ⟨[], rfl, h1⟩, h2⟩
theorem rd_ap (k : ByteArray) (bl : List UInt8) (w : World) (h : IsR w gr d) (ho : d.Ok M K) (hM : M ≤ 100000000) (hK : K ≤ 1000000) (hn : bl.length ≤ 100000000) :
    Calls Tryz.prog 95 #[.pointer (some ⟨gr, 0, none⟩), .string k, .string ⟨bl.toArray⟩] w fun x w' => DR w w' gr d (d.apO k bl) x :=
  (rapp k bl w h ho.left0 (Nat.le_trans ho.len hK) (by have := get_bd ho.sm k; omega)).mono fun x w' hp => dr_of hp
theorem rd_sy (k : ByteArray) (w : World) (h : IsR w gr d) (ho : d.Ok M K) (hK : K ≤ 1000000) :
    Calls Tryz.prog 93 #[.pointer (some ⟨gr, 0, none⟩), .string k] w fun x w' => DR w w' gr d (d.syO k) x :=
  (rsync k w h ho.left0 (Nat.le_trans ho.len hK)).mono fun x w' hp => dr_of hp
theorem rd_rm (k : ByteArray) (w : World) (h : IsR w gr d) (ho : d.Ok M K) (hK : K ≤ 1000000) :
    Calls Tryz.prog 98 #[.pointer (some ⟨gr, 0, none⟩), .string k] w fun x w' => DR w w' gr d (d.rmO k) x :=
  (rremove k w h ho.left0 (Nat.le_trans ho.len hK)).mono fun x w' hp => dr_of hp
theorem rd_cu (k : ByteArray) (m : Int) (w : World) (h : IsR w gr d) (ho : d.Ok M K) (hM : M ≤ 100000000) (hK : K ≤ 1000000) :
    Calls Tryz.prog 92 #[.pointer (some ⟨gr, 0, none⟩), .string k, .int .i64 m] w fun x w' => DR w w' gr d (d.cuO k m) x :=
  (rcut k m w h ho.left0 (Nat.le_trans ho.len hK) (Nat.le_trans (get_bd ho.sm k) hM)).mono fun x w' hp => dr_of hp
theorem rd_re (k to : ByteArray) (w : World) (h : IsR w gr d) (ho : d.Ok M K) (hK : K ≤ 1000000) :
    Calls Tryz.prog 101 #[.pointer (some ⟨gr, 0, none⟩), .string k, .string to] w fun x w' => DR w w' gr d (d.reO k to) x :=
  (rrename k to w h ho.left0 (Nat.le_trans ho.len hK)).mono fun x w' hp => dr_of hp
theorem rd_arm (n : Int) (w : World) (h : IsR w gr d) :
    Calls Tryz.prog 30 #[.pointer (some ⟨gr, 0, none⟩), .int .i64 n] w fun x w' => x = .returned (.tuple #[]) ∧ Mod (fun i _ => i = gr) w w' ∧ IsR w' gr (d.arm n) := by
  refine (rarm_any n w h).mono ?_
  rintro x w' ⟨rfl, h3, hG⟩
  exact ⟨rfl, mod_one hG, h3⟩
theorem rd_crash (A : Option Addr) (n c : Nat) (ks : List Nat) (w : World) (h : IsR w gr d) (ho : d.Ok M K) (hM : M ≤ 100000000) (hK : K ≤ 100000) (hk0 : RdK w w.heap.size A n c ks) (hks : ∀ x ∈ ks, x < 65536) :
    Calls Tryz.prog 32 #[.pointer (some ⟨gr, 0, none⟩), .slice A n c] w fun x w' => x = .returned (.tuple #[]) ∧ Mod (fun i _ => i = gr) w w' ∧ IsR w' gr (d.crash ks) :=
  rcrash_any A n c ks w h hk0 hks (Nat.le_trans ho.len hK) (fun x hx => ⟨(ho.sure x hx).1, (ho.sure x hx).2, Nat.le_trans (ho.sm x hx).1 hM⟩)
theorem rd_rd (k : ByteArray) (w : World) (h : IsR w gr d) :
    Calls Tryz.prog 89 #[.pointer (some ⟨gr, 0, none⟩), .string k] w fun x w' => x = .returned (.tuple #[.string ⟨(d.rb k).toArray⟩, .int .i64 (d.rc k)]) ∧ Below w.heap.size w w' := rread_any k w h
theorem rd_find (k : ByteArray) (w : World) (h : IsR w gr d) :
    Calls Tryz.prog 91 #[.pointer (some ⟨gr, 0, none⟩), .string k] w fun x w' => x = .returned (foundV d.fs k) ∧ Below w.heap.size w w' := rFind_any k w h
theorem rd_new (w : World) : Calls Tryz.prog 26 #[] w fun x w' => ∃ g, x = .returned (.pointer (some ⟨g, 0, none⟩)) ∧ IsR w' g PD.new ∧ w.heap.size ≤ g ∧ Below w.heap.size w w' := rnew_any w
end
end Go.Proofs.YtnkjekkdndjfaaaGreat
namespace Go.Proofs.YtnkjekkdndjfaaaGreat
set_option linter.unusedVariables false
set_option linter.unusedSimpArgs false
open Go.RowKit
structure FsOk (l : List Fi) (M K : Nat) : Prop where
  asc : AscF l
  sm : Bd M l
  len : l.length ≤ K
  sure : ∀ x ∈ l, 0 ≤ x.s ∧ x.s ≤ x.b.length
  cor : l.map Fi.core = l
theorem PD.Ok.fsok {d : PD} {M K : Nat} (h : d.Ok M K) : FsOk d.fs M K := ⟨h.asc, h.sm, h.len, h.sure, h.cor⟩
theorem FsOk.pd {d : PD} {M K : Nat} (h : FsOk d.fs M K) (hl : 0 ≤ d.left ∧ d.left < 9223372036854775808) : d.Ok M K := ⟨h.asc, h.sm, h.len, hl, h.sure, h.cor⟩
theorem FsOk.mono {l : List Fi} {M K M' K' : Nat} (h : FsOk l M K) (hM : M ≤ M') (hK : K ≤ K') : FsOk l M' K' := ⟨h.asc, h.sm.mono hM, Nat.le_trans h.len hK, h.sure, h.cor⟩
theorem getF_or (l : List Fi) (k : ByteArray) : (findF l k = none ∧ getF l k = Fi.zero) ∨ (findF l k = some (getF l k) ∧ getF l k ∈ l ∧ (getF l k).k = k) := by
  unfold getF
  cases hf : findF l k with
  | none => exact .inl ⟨rfl, rfl⟩
  | some x =>
    unfold findF at hf
    exact .inr ⟨rfl, List.mem_of_find?_eq_some hf, by have := List.find?_some hf; simpa using this⟩
theorem FsOk.get {l : List Fi} {M K : Nat} (h : FsOk l M K) (k : ByteArray) : (getF l k).b.length ≤ M ∧ 0 ≤ (getF l k).s ∧ (getF l k).s ≤ (getF l k).b.length := by
  rcases getF_or l k with ⟨_, h2⟩ | ⟨_, h2, _⟩
  · rw [h2]; simp [Fi.zero]
  · exact ⟨(h.sm _ h2).1, h.sure _ h2⟩
theorem FsOk.put {l : List Fi} {M K : Nat} (h : FsOk l M K) (e : Fi) (he : e.b.length ≤ M ∧ e.k.size ≤ maxLen) (hs : 0 ≤ e.s ∧ e.s ≤ e.b.length) (hc : e.core = e) (hK : (applyF e false l).length ≤ K) : FsOk (applyF e false l) M K :=
  ⟨applyF_asc _ _ h.asc, bd_put h.asc h.sm e he false, hK, fun x hx => by rcases applyF_mem h.asc hx with rfl | hx; exact hs; exact h.sure x hx, by rw [applyF_core, hc, h.cor]⟩
theorem FsOk.without {l : List Fi} {M K : Nat} (h : FsOk l M K) (k : ByteArray) : FsOk (withoutF l k) M K :=
  ⟨asc_without h.asc k, bd_without h.sm k, Nat.le_trans (without_len l k) h.len, fun x hx => h.sure x (List.mem_filter.1 hx).1, by rw [withoutF_core, h.cor]⟩
theorem put_same {l : List Fi} (e : Fi) (h : AscF l) (hf : (findF l e.k).isSome = true) : (applyF e false l).length = l.length := by
  have := applyF_length e false h
  rw [hf] at this
  simpa using this
theorem without_one {l : List Fi} (k : ByteArray) (h : AscF l) (hf : (findF l k).isSome = true) : (withoutF l k).length + 1 = l.length := by
  have := applyF_length ⟨k, [], none, 0, 0, 0⟩ true h
  rw [without_apply] at this
  simp only [if_true] at this
  rw [hf] at this
  simpa using this
theorem wrP_left {lost armed : Bool} {left : Int} (h : 0 ≤ left ∧ left < 9223372036854775808) : 0 ≤ (wrP lost armed left).left ∧ (wrP lost armed left).left < 9223372036854775808 := by
  unfold wrP
  split
  · exact h
  · split
    · exact h
    · split
      · rename_i h1 h2 h3
        have : left ≠ 0 := by intro e; rw [h3, e] at h2; exact h2 rfl
        simp only
        omega
      · exact h
section
variable {d : PD} {M K : Nat}
theorem ok_go (h : d.Ok M K) {M' : Nat} (hM : M ≤ M') (k : ByteArray) (bad : Bool) {new : List Fi} (hn : (findF d.fs k).isSome = true → FsOk new M' K) : (d.out (goO d.fs k d.lost d.armed d.left bad new)).Ok M' K := by
  have h0 := h.fsok.mono hM (Nat.le_refl K)
  unfold goO
  cases hf : (findF d.fs k).isSome with
  | false => exact FsOk.pd (d := d.out ⟨6, d.fs, d.lost, d.left⟩) h0 h.left0
  | true =>
    simp only [Bool.true_eq_false, if_false]
    cases bad with
    | true => exact FsOk.pd (d := d.out ⟨1, d.fs, d.lost, d.left⟩) h0 h.left0
    | false =>
      simp only [Bool.false_eq_true, if_false]
      refine FsOk.pd (d := d.out ⟨_, _, _, _⟩) ?_ (wrP_left h.left0)
      show FsOk (if _ then new else d.fs) M' K
      split
      · exact hn hf
      · exact h0
theorem ok_ap (h : d.Ok M K) (k : ByteArray) (hk : k.size ≤ maxLen) (y : List UInt8) : (d.out (d.apO k y)).Ok (M + y.length) (K + 1) := by
  have h0 := h.fsok.mono (Nat.le_add_right M y.length) (Nat.le_succ K)
  have hg := h.fsok.get k
  unfold PD.apO apO
  split
  · exact FsOk.pd (d := d.out ⟨1, d.fs, d.lost, d.left⟩) h0 h.left0
  · refine FsOk.pd (d := d.out ⟨_, _, _, _⟩) ?_ (wrP_left h.left0)
    show FsOk (if _ then _ else _) _ _
    split
    · exact h0
    · exact h0.put _ ⟨by simp only [List.length_append]; omega, hk⟩ ⟨hg.2.1, by simp only [List.length_append]; omega⟩ rfl (Nat.le_trans (put_len _ _ h.asc) (Nat.succ_le_succ h.len))
theorem ok_sy (h : d.Ok M K) (k : ByteArray) (hk : k.size ≤ maxLen) : (d.out (d.syO k)).Ok M K := by
  have hg := h.fsok.get k
  exact ok_go h (Nat.le_refl M) k false (fun hf => h.fsok.put ⟨k, _, none, 0, 0, _⟩ ⟨hg.1, hk⟩ ⟨Int.natCast_nonneg _, Int.le_refl _⟩ rfl (by rw [put_same _ h.asc hf]; exact h.len))
theorem ok_rm (h : d.Ok M K) (k : ByteArray) : (d.out (d.rmO k)).Ok M K := ok_go h (Nat.le_refl M) k false (fun _ => h.fsok.without k)
theorem ok_cu (h : d.Ok M K) (k : ByteArray) (m : Int) (hk : k.size ≤ maxLen) : (d.out (d.cuO k m)).Ok M K := by
  have hg := h.fsok.get k
  unfold PD.cuO cuO
  by_cases hm : m < 0 ∨ ((getF d.fs k).b.length : Int) < m
  · have hbad : (decide (m < 0) || decide (((getF d.fs k).b.length : Int) < m)) = true := by simpa using hm
    rw [hbad]
    unfold goO
    split
    · exact FsOk.pd (d := d.out ⟨6, d.fs, d.lost, d.left⟩) h.fsok h.left0
    · exact FsOk.pd (d := d.out ⟨1, d.fs, d.lost, d.left⟩) h.fsok h.left0
  · exact ok_go h (Nat.le_refl M) k _ (fun hf => h.fsok.put ⟨k, _, none, 0, 0, _⟩ ⟨by simp only [List.length_take]; omega, hk⟩ ⟨by show 0 ≤ m; omega, by show m ≤ (((getF d.fs k).b.take m.toNat).length : Int); rw [List.length_take]; omega⟩ rfl (by rw [put_same _ h.asc hf]; exact h.len))
theorem ok_re (h : d.Ok M K) (k to : ByteArray) (hk : to.size ≤ maxLen) : (d.out (d.reO k to)).Ok M K := by
  have hg := h.fsok.get k
  refine ok_go h (Nat.le_refl M) k _ (fun hf => (h.fsok.without k).put ⟨to, _, none, 0, 0, _⟩ ⟨hg.1, hk⟩ hg.2 rfl ?_)
  have h1 := put_len ⟨to, (getF d.fs k).b, none, 0, 0, (getF d.fs k).s⟩ false (asc_without h.asc k)
  have h2 := without_one k h.asc hf
  have := h.len
  omega
theorem ok_arm (h : d.Ok M K) (n : Int) (hn : n < 9223372036854775808) : (d.arm n).Ok M K := FsOk.pd h.fsok (by unfold PD.arm; simp only; split <;> omega)
theorem crashF_mem {ks : List Nat} : ∀ {i : Nat} {l : List Fi} {x : Fi}, x ∈ crashF ks i l → ∃ (j : Nat) (y : Fi), y ∈ l ∧ x = crashX ks j y
  | i, [], x, h => by cases h
  | i, y :: l, x, h => by
    rw [crashF] at h
    rcases List.mem_cons.1 h with rfl | h
    · exact ⟨i, y, by simp, rfl⟩
    · obtain ⟨j, z, hz, e⟩ := crashF_mem h
      exact ⟨j, z, by simp [hz], e⟩
theorem crashF_asc {ks : List Nat} : ∀ {i : Nat} {l : List Fi}, AscF l → AscF (crashF ks i l)
  | i, [], h => h
  | i, y :: l, h => by
    unfold AscF at h
    rw [List.pairwise_cons] at h
    have h2 := crashF_asc (ks := ks) (i := i + 1) h.2
    rw [crashF]
    unfold AscF at h2 ⊢
    rw [List.pairwise_cons]
    refine ⟨fun x hx => ?_, h2⟩
    obtain ⟨j, z, hz, rfl⟩ := crashF_mem hx
    exact h.1 z hz
theorem ok_crash (h : d.Ok M K) (ks : List Nat) : (d.crash ks).Ok M K := by
  refine FsOk.pd (d := d.crash ks) ⟨crashF_asc h.asc, fun x hx => ?_, by show (crashF ks 0 d.fs).length ≤ K; rw [crashF_length]; exact h.len, fun x hx => ?_, crashF_cored ks 0 d.fs⟩ ⟨Int.le_refl 0, by show (0 : Int) < _; omega⟩
  · obtain ⟨j, y, hy, rfl⟩ := crashF_mem hx
    have := h.sm y hy
    exact ⟨by show (y.b.take _).length ≤ M; rw [List.length_take]; omega, this.2⟩
  · obtain ⟨j, y, hy, rfl⟩ := crashF_mem hx
    have h1 := h.sure y hy
    have h2 : crashN ks j y ≤ y.b.length := crashN_le (by omega)
    exact ⟨Int.natCast_nonneg _, by show ((crashN ks j y : Nat) : Int) ≤ ((y.b.take (crashN ks j y)).length : Int); rw [List.length_take]; omega⟩
theorem ok_rb (h : d.Ok M K) (k : ByteArray) : (d.rb k).length ≤ M := by
  unfold PD.rb rdBytes
  split
  · exact (h.fsok.get k).1
  · exact Nat.zero_le _
end
theorem IsD.mods {w w' : World} {gd bd N : Nat} {d : PD} {M : Nat → Obj → Prop} (h : IsD w gd bd N d) (hm : Mod M w w') (h1 : ∀ o, ¬ M gd o) (h2 : ∀ o, ¬ M bd o) (h3 : ∀ i o, w.heap[i]? = some o → IsT 5 o → ¬ M i o) : IsD w' gd bd N d := by
  obtain ⟨l, e1, e2⟩ := h
  exact ⟨l, e1, hm.at e2.at_ (h1 _), e2.mp.mod hm (fun _ _ => h2 _), fun x hq => ⟨own_mod (show World.ownsRow _ _ _ _ _ _ _ from (e2.own x hq).1) hm (fun i o ho _ hit e => h3 i o ho hit e), (e2.own x hq).2⟩, e2.ne, e2.left0⟩
theorem IsR.mods {w w' : World} {gr : Nat} {d : PD} {M : Nat → Obj → Prop} (h : IsR w gr d) (hm : Mod M w w') (h1 : ∀ o, ¬ M gr o) (h3 : ∀ i o, w.heap[i]? = some o → IsT 88 o → ¬ M i o) : IsR w' gr d := by
  obtain ⟨A, c, e1, e2⟩ := IsRf.ex h
  exact ⟨A, c, hm.at e1 (h1 _), own_mod e2 hm (fun i o ho _ hit e => h3 i o ho hit e)⟩
end Go.Proofs.YtnkjekkdndjfaaaGreat
