
/- Chapter 6: what each operation does, of the program and of the document, in one form. -/
import Derived.Test.YtmoijbknjadeeaaRfCrash
namespace Go.Proofs.Ytmoijbknjadeeaa
set_option linter.unusedVariables false
set_option linter.unusedSimpArgs false
open Go.RowKit
theorem findF_least {x : Fi} {l : List Fi} (h : AscF (x :: l)) {k : ByteArray} (hk : kless k x.k = true ∨ k = x.k) : findF l k = none := by
  unfold AscF at h
  rw [List.pairwise_cons] at h
  refine findF_ne fun c hc => ?_
  have h1 := h.1 c hc
  rcases hk with hk | rfl
  · exact (kless_ne (kless_trans hk h1)).symm
  · exact (kless_ne h1).symm
theorem findF_cons (x : Fi) (l : List Fi) (k : ByteArray) : findF (x :: l) k = if x.k = k then some x else findF l k := by
  unfold findF
  rw [List.find?_cons]
  by_cases h : x.k = k
  · rw [if_pos h, decide_eq_true h]
  · rw [if_neg h, decide_eq_false h]
theorem ascF_ext : ∀ {a b : List Fi}, AscF a → AscF b → (∀ k, findF a k = findF b k) → a = b
  | [], [], _, _, _ => rfl
  | [], y :: b, _, _, h => by have := h y.k; rw [findF_cons, if_pos rfl] at this; cases this
  | x :: a, [], _, _, h => by have := h x.k; rw [findF_cons, if_pos rfl] at this; cases this
  | x :: a, y :: b, ha, hb, h => by
    have hxy : x = y := by
      rcases kless_tri x.k y.k with h1 | h1 | h1
      · have h2 := h x.k
        rw [findF_cons, if_pos rfl, findF_cons, if_neg (kless_ne h1).symm, findF_least hb (.inl h1)] at h2
        cases h2
      · have h2 := h x.k
        rw [findF_cons, if_pos rfl, findF_cons, if_pos h1.symm] at h2
        exact Option.some.inj h2
      · have h2 := h y.k
        rw [findF_cons, findF_cons, if_pos rfl, if_neg (kless_ne h1).symm, findF_least ha (.inl h1)] at h2
        cases h2
    subst hxy
    have ha2 := ha
    have hb2 := hb
    unfold AscF at ha2 hb2
    rw [List.pairwise_cons] at ha2 hb2
    rw [ascF_ext (a := a) (b := b) ha2.2 hb2.2 fun k => by
      by_cases hk : x.k = k
      · rw [findF_least ha (.inr hk.symm), findF_least hb (.inr hk.symm)]
      · have := h k
        rw [findF_cons, findF_cons, if_neg hk, if_neg hk] at this
        exact this]
theorem ren_comm {l : List Fi} (e f : Fi) (ha : AscF l) (hne : f.k ≠ e.k) : applyF e true (applyF f false l) = applyF f false (applyF e true l) := by
  refine ascF_ext (applyF_asc _ _ (applyF_asc _ _ ha)) (applyF_asc _ _ (applyF_asc _ _ ha)) fun k => ?_
  rw [findF_apply e true (applyF_asc _ _ ha), findF_apply f false ha, findF_apply f false (applyF_asc _ _ ha), findF_apply e true ha]
  simp only [if_true, Bool.false_eq_true, if_false]
  by_cases h1 : k = e.k
  · rw [if_pos h1, if_neg (fun h => hne (h.symm.trans h1)), if_pos h1]
  · rw [if_neg h1, if_neg h1]
def PR (w w' : World) (gd bd N : Nat) (armed : Bool) (code : Int) (core : List Fi) (lost' : Bool) (left' : Int) (x : Ending) : Prop :=
  x = .returned (.int .i64 code) ∧ Mod (fun i _ => i = gd ∨ i = bd) w w' ∧ ∃ l', l'.flatMap Fi.row = core.flatMap Fi.row ∧ IsDk w' gd bd (N + 1) l' lost' armed left'
def RR (w w' : World) (gr : Nat) (armed : Bool) (code : Int) (core : List Fi) (lost' : Bool) (left' : Int) (x : Ending) : Prop :=
  x = .returned (.int .i64 code) ∧ Mod (fun i _ => i = gr) w w' ∧ IsRf w' gr core lost' (rl armed left')
theorem IsRf.same {w : World} {g : Nat} {l l' : List Fi} {gone : Bool} {left : Int} (h : IsRf w g l gone left) (hr : l'.flatMap Fi.row = l.flatMap Fi.row) : IsRf w g l' gone left := by
  obtain ⟨A, c, h1, h2⟩ := h.ex
  have hl : l'.length = l.length := by
    have := congrArg List.length hr
    rw [flat_length Fi.row_length, flat_length Fi.row_length] at this
    omega
  exact ⟨A, c, by rw [hl]; exact h1, by unfold OwnRF; rw [hl, hr]; exact h2⟩
structure Out where
  code : Int
  core : List Fi
  lost : Bool
  left : Int
section
variable {gd bd N gr : Nat} {l : List Fi} {lost armed : Bool} {left : Int}
def apO (k : ByteArray) (b : List UInt8) (l : List Fi) (lost armed : Bool) (left : Int) : Out :=
  if k.size = 0 then ⟨1, l, lost, left⟩ else
  ⟨(wrP lost armed left).code, if lost then l else applyF ⟨k, (getF l k).b ++ b, none, 0, 0, (getF l k).s⟩ false l, (wrP lost armed left).lost, (wrP lost armed left).left⟩
def goO (l : List Fi) (k : ByteArray) (lost armed : Bool) (left : Int) (bad : Bool) (new : List Fi) : Out :=
  if (findF l k).isSome = false then ⟨6, l, lost, left⟩ else if bad then ⟨1, l, lost, left⟩ else
  ⟨(wrP lost armed left).code, if (wrP lost armed left).code = 0 then new else l, (wrP lost armed left).lost, (wrP lost armed left).left⟩
def syO (k : ByteArray) (l : List Fi) (lost armed : Bool) (left : Int) : Out := goO l k lost armed left false (applyF ⟨k, (getF l k).b, none, 0, 0, ((getF l k).b.length : Int)⟩ false l)
def rmO (k : ByteArray) (l : List Fi) (lost armed : Bool) (left : Int) : Out := goO l k lost armed left false (withoutF l k)
def cuO (k : ByteArray) (m : Int) (l : List Fi) (lost armed : Bool) (left : Int) : Out := goO l k lost armed left (decide (m < 0) || decide (((getF l k).b.length : Int) < m)) (applyF ⟨k, (getF l k).b.take m.toNat, none, 0, 0, m⟩ false l)
def reO (k to : ByteArray) (l : List Fi) (lost armed : Bool) (left : Int) : Out := goO l k lost armed left (decide (to.size = 0) || decide (to = k)) (applyF ⟨to, (getF l k).b, none, 0, 0, (getF l k).s⟩ false (withoutF l k))
theorem mod_of_below {w w' : World} {M : Nat → Obj → Prop} (h : Below w.heap.size w w') : Mod M w w' := (Mod.refl M w).below h
theorem pr_below {w w' : World} {code : Int} (h : IsDk w' gd bd N l lost armed left) (hb : Below w.heap.size w w') : PR w w' gd bd N armed code l lost left (.returned (.int .i64 code)) := ⟨rfl, mod_of_below hb, l, rfl, h.more (Nat.le_succ _)⟩
theorem papp (k : ByteArray) (hkm : k.size ≤ maxLen) (A : Option Addr) (n c : Nat) (y : List UInt8) (w : World) (h : IsDk w gd bd N l lost armed left) (hr : ∀ v, w.grownBy v (some gd) → RdB v v.heap.size A n c y) (hn : n ≤ 100000000) (hN : N < 1000000) (hsz : ∀ x ∈ l, x.b.length ≤ 100000000) :
    Calls Try.prog 16 #[.pointer (some ⟨gd, 0, none⟩), .string k, .slice A n c] w fun x w' => PR w w' gd bd N armed (apO k y l lost armed left).code (apO k y l lost armed left).core (apO k y l lost armed left).lost (apO k y l lost armed left).left x := by
  unfold apO
  by_cases hk : k.size = 0
  · rw [if_pos hk]
    refine (append_empty k hk A n c w).mono ?_
    rintro x w' ⟨rfl, rfl⟩
    exact pr_below h (Below.refl _ _)
  · rw [if_neg hk]
    cases lost with
    | true =>
      refine (append_lost k (by omega) A n c w h).mono ?_
      rintro x w' ⟨rfl, h1, hG⟩
      exact ⟨rfl, grown_mod' hG, l, rfl, h1.more (Nat.le_succ _)⟩
    | false =>
      refine (append_yes k (by omega) hkm A n c y w h hr hn hN hsz).mono ?_
      rintro x w' ⟨rfl, hm, P, n', c', h1⟩
      exact ⟨rfl, hm, applyF ⟨k, (getF l k).b ++ y, P, n', c', (getF l k).s⟩ false l, rows_same (e := ⟨k, (getF l k).b ++ y, P, n', c', (getF l k).s⟩) (e' := ⟨k, (getF l k).b ++ y, none, 0, 0, (getF l k).s⟩) rfl rfl rfl false l, h1⟩
theorem rapp (k : ByteArray) (bl : List UInt8) (w : World) (h : IsRf w gr l lost (rl armed left)) (hl : 0 ≤ left ∧ left < 9223372036854775808) (hn : l.length ≤ 1000000) (hsz : (getF l k).b.length + bl.length ≤ 1000000000) :
    Calls Try.prog 47 #[.pointer (some ⟨gr, 0, none⟩), .string k, .string ⟨bl.toArray⟩] w fun x w' => RR w w' gr armed (apO k bl l lost armed left).code (apO k bl l lost armed left).core (apO k bl l lost armed left).lost (apO k bl l lost armed left).left x := by
  unfold apO
  by_cases hk : k.size = 0
  · rw [if_pos hk]
    refine (rappend_empty k _ hk w).mono ?_
    rintro x w' ⟨rfl, rfl⟩
    exact ⟨rfl, Mod.refl _ _, h⟩
  · rw [if_neg hk]
    refine (rappend_any k bl (by omega) w h hl hn hsz).mono ?_
    rintro x w' ⟨rfl, hm, h1⟩
    exact ⟨rfl, hm, h1⟩
theorem go_pr {w w' : World} {q : Wr} {new : List Fi} {NL : List Fi → Prop} (hNL : ∀ l', NL l' → l'.flatMap Fi.row = new.flatMap Fi.row) {x : Ending} (h : GoR w w' gd bd N l armed q NL x) : PR w w' gd bd N armed q.code (if q.code = 0 then new else l) q.lost q.left x := by
  obtain ⟨rfl, hm, h1, h2⟩ := h
  by_cases hc : q.code = 0
  · obtain ⟨l', hl', hd⟩ := h2 hc
    rw [if_pos hc]
    exact ⟨rfl, hm, l', hNL l' hl', hd⟩
  · rw [if_neg hc]
    exact ⟨rfl, hm, l, rfl, (h1 hc).more (Nat.le_succ _)⟩
theorem psync (k : ByteArray) (hkm : k.size ≤ maxLen) (w : World) (h : IsDk w gd bd N l lost armed left) (hN : N < 1000000) :
    Calls Try.prog 18 #[.pointer (some ⟨gd, 0, none⟩), .string k] w fun x w' => PR w w' gd bd N armed (syO k l lost armed left).code (syO k l lost armed left).core (syO k l lost armed left).lost (syO k l lost armed left).left x := by
  unfold syO goO
  cases hf : (findF l k).isSome with
  | false =>
    simp only [if_true]
    refine (sync_no k hkm w h hf).mono ?_
    rintro x w' ⟨rfl, h1, hb⟩
    exact pr_below h1 hb
  | true =>
    simp only [Bool.true_eq_false, if_false]
    refine (sync_go k hkm w h hf hN).mono fun x w' hg => ?_
    exact go_pr (fun l' hl' => by obtain ⟨P, n, c, rfl⟩ := hl'; exact rows_same (e := ⟨k, (getF l k).b, P, n, c, ((getF l k).b.length : Int)⟩) (e' := ⟨k, (getF l k).b, none, 0, 0, ((getF l k).b.length : Int)⟩) rfl rfl rfl false l) hg
theorem rsync (k : ByteArray) (w : World) (h : IsRf w gr l lost (rl armed left)) (hl : 0 ≤ left ∧ left < 9223372036854775808) (hn : l.length ≤ 1000000) :
    Calls Try.prog 55 #[.pointer (some ⟨gr, 0, none⟩), .string k] w fun x w' => RR w w' gr armed (syO k l lost armed left).code (syO k l lost armed left).core (syO k l lost armed left).lost (syO k l lost armed left).left x := by
  unfold syO goO
  cases hf : (findF l k).isSome with
  | false =>
    simp only [if_true]
    refine (rsync_no k w h hf).mono ?_
    rintro x w' ⟨rfl, h1, hb⟩
    exact ⟨rfl, mod_of_below hb, h1⟩
  | true =>
    simp only [Bool.true_eq_false, if_false]
    exact rsync_go k w h hl hf hn
theorem premove (k : ByteArray) (hkm : k.size ≤ maxLen) (w : World) (h : IsDk w gd bd N l lost armed left) :
    Calls Try.prog 29 #[.pointer (some ⟨gd, 0, none⟩), .string k] w fun x w' => PR w w' gd bd N armed (rmO k l lost armed left).code (rmO k l lost armed left).core (rmO k l lost armed left).lost (rmO k l lost armed left).left x := by
  unfold rmO goO
  cases hf : (findF l k).isSome with
  | false =>
    simp only [if_true]
    refine (remove_no k hkm w h hf).mono ?_
    rintro x w' ⟨rfl, h1, hb⟩
    exact pr_below h1 hb
  | true =>
    simp only [Bool.true_eq_false, if_false]
    refine (remove_go k hkm w h hf).mono fun x w' hg => ?_
    exact go_pr (fun l' hl' => by obtain ⟨e, he, rfl⟩ := hl'; rw [without_apply, he]) hg
theorem rremove (k : ByteArray) (w : World) (h : IsRf w gr l lost (rl armed left)) (hl : 0 ≤ left ∧ left < 9223372036854775808) (hn : l.length ≤ 1000000) :
    Calls Try.prog 57 #[.pointer (some ⟨gr, 0, none⟩), .string k] w fun x w' => RR w w' gr armed (rmO k l lost armed left).code (rmO k l lost armed left).core (rmO k l lost armed left).lost (rmO k l lost armed left).left x := by
  unfold rmO goO
  cases hf : (findF l k).isSome with
  | false =>
    simp only [if_true]
    refine (rremove_no k w h hf).mono ?_
    rintro x w' ⟨rfl, h1, hb⟩
    exact ⟨rfl, mod_of_below hb, h1⟩
  | true =>
    simp only [Bool.true_eq_false, if_false]
    exact rremove_go k w h hl hf hn
theorem pcut (k : ByteArray) (m : Int) (hkm : k.size ≤ maxLen) (w : World) (h : IsDk w gd bd N l lost armed left) (hN : N < 1000000) (hsz : (getF l k).b.length ≤ 100000000) :
    Calls Try.prog 30 #[.pointer (some ⟨gd, 0, none⟩), .string k, .int .i64 m] w fun x w' => PR w w' gd bd N armed (cuO k m l lost armed left).code (cuO k m l lost armed left).core (cuO k m l lost armed left).lost (cuO k m l lost armed left).left x := by
  unfold cuO goO
  cases hf : (findF l k).isSome with
  | false =>
    simp only [if_true]
    refine (cut_no k m hkm w h hf).mono ?_
    rintro x w' ⟨rfl, h1, hb⟩
    exact pr_below h1 hb
  | true =>
    simp only [Bool.true_eq_false, if_false]
    by_cases hm : m < 0 ∨ ((getF l k).b.length : Int) < m
    · have hbad : (decide (m < 0) || decide (((getF l k).b.length : Int) < m)) = true := by simpa using hm
      rw [hbad]
      simp only [if_true]
      refine (cut_arg k m hkm w h hf hm).mono ?_
      rintro x w' ⟨rfl, h1, hb⟩
      exact pr_below h1 hb
    · have hbad : (decide (m < 0) || decide (((getF l k).b.length : Int) < m)) = false := by simp; omega
      rw [hbad]
      simp only [Bool.false_eq_true, if_false]
      obtain ⟨j, rfl⟩ := Int.eq_ofNat_of_zero_le (show 0 ≤ m by omega)
      refine (cut_go k j hkm w h hf hN (by omega) hsz).mono fun x w' hg => ?_
      exact go_pr (fun l' hl' => by obtain ⟨P, n, c, rfl⟩ := hl'; exact rows_same (e := ⟨k, (getF l k).b.take j, P, n, c, (j : Int)⟩) (e' := ⟨k, (getF l k).b.take (j : Int).toNat, none, 0, 0, (j : Int)⟩) rfl (by simp) rfl false l) hg
theorem rcut (k : ByteArray) (m : Int) (w : World) (h : IsRf w gr l lost (rl armed left)) (hl : 0 ≤ left ∧ left < 9223372036854775808) (hn : l.length ≤ 1000000) (hsz : (getF l k).b.length ≤ 100000000) :
    Calls Try.prog 58 #[.pointer (some ⟨gr, 0, none⟩), .string k, .int .i64 m] w fun x w' => RR w w' gr armed (cuO k m l lost armed left).code (cuO k m l lost armed left).core (cuO k m l lost armed left).lost (cuO k m l lost armed left).left x := by
  unfold cuO goO
  cases hf : (findF l k).isSome with
  | false =>
    simp only [if_true]
    refine (rcut_no k m w h hf).mono ?_
    rintro x w' ⟨rfl, h1, hb⟩
    exact ⟨rfl, mod_of_below hb, h1⟩
  | true =>
    simp only [Bool.true_eq_false, if_false]
    by_cases hm : m < 0 ∨ ((getF l k).b.length : Int) < m
    · have hbad : (decide (m < 0) || decide (((getF l k).b.length : Int) < m)) = true := by simpa using hm
      rw [hbad]
      simp only [if_true]
      refine (rcut_arg k m w h hf hm).mono ?_
      rintro x w' ⟨rfl, h1, hb⟩
      exact ⟨rfl, mod_of_below hb, h1⟩
    · have hbad : (decide (m < 0) || decide (((getF l k).b.length : Int) < m)) = false := by simp; omega
      rw [hbad]
      simp only [Bool.false_eq_true, if_false]
      obtain ⟨j, rfl⟩ := Int.eq_ofNat_of_zero_le (show 0 ≤ m by omega)
      exact rcut_go k j w h hl hf hn (by omega) hsz
theorem prename (k to : ByteArray) (hkm : k.size ≤ maxLen) (htm : to.size ≤ maxLen) (w : World) (h : IsDk w gd bd N l lost armed left) (hN : N < 1000000) :
    Calls Try.prog 28 #[.pointer (some ⟨gd, 0, none⟩), .string k, .string to] w fun x w' => PR w w' gd bd N armed (reO k to l lost armed left).code (reO k to l lost armed left).core (reO k to l lost armed left).lost (reO k to l lost armed left).left x := by
  have hasc := h.mp.asc
  unfold reO goO
  cases hf : (findF l k).isSome with
  | false =>
    simp only [if_true]
    refine (rename_no k to hkm w h hf).mono ?_
    rintro x w' ⟨rfl, h1, hb⟩
    exact pr_below h1 hb
  | true =>
    simp only [Bool.true_eq_false, if_false]
    by_cases hm : to.size = 0 ∨ to = k
    · have hbad : (decide (to.size = 0) || decide (to = k)) = true := by simpa using hm
      rw [hbad]
      simp only [if_true]
      refine (rename_arg k to hkm w h hf hm).mono ?_
      rintro x w' ⟨rfl, h1, hb⟩
      exact pr_below h1 hb
    · have hm2 := not_or.1 hm
      have hbad : (decide (to.size = 0) || decide (to = k)) = false := by rw [decide_eq_false hm2.1, decide_eq_false hm2.2]; rfl
      rw [hbad]
      simp only [Bool.false_eq_true, if_false]
      refine (rename_go k to hkm htm w h hf hN (by omega) hm2.2).mono fun x w' hg => ?_
      refine go_pr (fun l' hl' => ?_) hg
      obtain ⟨e, he, P, n, c, rfl⟩ := hl'
      rw [ren_comm e _ hasc (by show to ≠ e.k; rw [he]; exact hm2.2), without_apply, he]
      exact rows_same (e := ⟨to, (getF l k).b, P, n, c, (getF l k).s⟩) (e' := ⟨to, (getF l k).b, none, 0, 0, (getF l k).s⟩) rfl rfl rfl false _
theorem rrename (k to : ByteArray) (w : World) (h : IsRf w gr l lost (rl armed left)) (hl : 0 ≤ left ∧ left < 9223372036854775808) (hn : l.length ≤ 1000000) :
    Calls Try.prog 56 #[.pointer (some ⟨gr, 0, none⟩), .string k, .string to] w fun x w' => RR w w' gr armed (reO k to l lost armed left).code (reO k to l lost armed left).core (reO k to l lost armed left).lost (reO k to l lost armed left).left x := by
  unfold reO goO
  cases hf : (findF l k).isSome with
  | false =>
    simp only [if_true]
    refine (rrename_no k to w h hf).mono ?_
    rintro x w' ⟨rfl, h1, hb⟩
    exact ⟨rfl, mod_of_below hb, h1⟩
  | true =>
    simp only [Bool.true_eq_false, if_false]
    by_cases hm : to.size = 0 ∨ to = k
    · have hbad : (decide (to.size = 0) || decide (to = k)) = true := by simpa using hm
      rw [hbad]
      simp only [if_true]
      refine (rrename_arg k to w h hf hm).mono ?_
      rintro x w' ⟨rfl, h1, hb⟩
      exact ⟨rfl, mod_of_below hb, h1⟩
    · have hm2 := not_or.1 hm
      have hbad : (decide (to.size = 0) || decide (to = k)) = false := by rw [decide_eq_false hm2.1, decide_eq_false hm2.2]; rfl
      rw [hbad]
      simp only [Bool.false_eq_true, if_false]
      exact rrename_go k to w h hl hf hn (by omega) hm2.2
end
end Go.Proofs.Ytmoijbknjadeeaa
