
/- Chapter 17: so many fewer behind so many more, in plain words. -/
import Derived.Test.YtcepknjcgknidaaAdd17
import Derived.Test.YtcepknjcgknidaaTot17
namespace Go.Proofs.Ytcepknjcgknidaa
set_option linter.unusedSimpArgs false
set_option linter.unusedVariables false
open Go.RowKit
def Ct.good (c : Ct) : Prop := c.b % 64 = 0 ∧ 1 ≤ c.n ∧ c.n ≤ 65535
theorem right17_iff (l : List Ct) : right17 l = true ↔ (∀ c ∈ l, c.good) ∧ l.Pairwise (fun a b => a.b < b.b) ∧ l.length ≤ 4096 := by
  constructor
  · intro h
    refine ⟨fun c hc => ?_, ?_, (of_decide_eq_true h).2⟩
    · obtain ⟨k, hk, rfl⟩ := List.getElem_of_mem hc
      exact right_at h hk
    · rw [List.pairwise_iff_getElem]
      intro i j hi hj hij
      have := asc_of_right h i j hij hj
      rw [getD_at hi, getD_at hj] at this
      exact this
  · rintro ⟨h1, h2, h3⟩
    rw [List.pairwise_iff_getElem] at h2
    refine decide_eq_true ⟨fun i hi => ?_, h3⟩
    obtain ⟨g1, g2, g3⟩ := h1 l[i] (List.getElem_mem hi)
    unfold okC
    rw [getD_at hi]
    refine ⟨g1, g2, g3, fun h0 => ?_⟩
    rw [getD_at (show i - 1 < l.length by omega)]
    exact h2 (i - 1) i (by omega) hi (by omega)
def one17 (x : Nat) (u : Int) : List Ct := if u == 0 then [] else [⟨x, u⟩]
structure Cut17 (l : List Ct) (x : Nat) (p q : List Ct) (u : Int) : Prop where
  eq : l = p ++ (one17 x u ++ q)
  less : ∀ c ∈ p, c.b < x
  more : ∀ c ∈ q, x < c.b
theorem cut_at (x : Nat) : ∀ l : List Ct, (∀ c ∈ l, c.good) → l.Pairwise (fun a b => a.b < b.b) → ∃ p q u, Cut17 l x p q u ∧ 0 ≤ u
  | [], _, _ => ⟨[], [], 0, ⟨rfl, by simp, by simp⟩, by omega⟩
  | c :: l, hg, hp => by
    rw [List.pairwise_cons] at hp
    rcases Nat.lt_trichotomy c.b x with h | h | h
    · obtain ⟨p, q, u, hc, hu⟩ := cut_at x l (fun d hd => hg d (by simp [hd])) hp.2
      exact ⟨c :: p, q, u, ⟨by rw [hc.eq]; rfl, by intro d hd; rcases List.mem_cons.1 hd with rfl | hd; exact h; exact hc.less d hd, hc.more⟩, hu⟩
    · have hn := (hg c (by simp)).2.1
      refine ⟨[], l, c.n, ⟨?_, by simp, fun d hd => by have := hp.1 d hd; omega⟩, by omega⟩
      have hb : (c.n == 0) = false := beq_eq_false_iff_ne.mpr (by omega)
      subst h
      simp [one17, hb]
    · exact ⟨[], c :: l, 0, ⟨rfl, by simp, by intro d hd; rcases List.mem_cons.1 hd with rfl | hd; exact h; have := hp.1 d hd; omega⟩, by omega⟩
theorem Cut17.set {l p q : List Ct} {x : Nat} {u : Int} (h : Cut17 l x p q u) (v : Int) : Cut17 (set17 l x v) x p q v := by
  refine ⟨?_, h.less, h.more⟩
  unfold set17
  rw [h.eq, setr_less x v _ _ p h.less]
  unfold one17
  by_cases hu : u = 0
  · subst hu
    simp only [BEq.rfl, if_true, List.nil_append]
    rw [setr_more x v _ q h.more]
  · have hb : (u == 0) = false := beq_eq_false_iff_ne.mpr hu
    simp only [hb, Bool.false_eq_true, if_false, List.cons_append, List.nil_append]
    rw [setr_hit x v _ ⟨x, u⟩ rfl q h.more]
theorem Cut17.of {l p q : List Ct} {x : Nat} {u : Int} (h : Cut17 l x p q u) : of17 l x = u := by
  unfold of17
  rw [h.eq, List.find?_append, List.find?_eq_none.2 (fun c hc => by have := h.less c hc; simp; omega), Option.none_or]
  unfold one17
  by_cases hu : u = 0
  · subst hu
    simp only [BEq.rfl, if_true, List.nil_append]
    rw [List.find?_eq_none.2 (fun c hc => by have := h.more c hc; simp; omega)]
  · have hb : (u == 0) = false := beq_eq_false_iff_ne.mpr hu
    simp [hb]
theorem Cut17.tot {l p q : List Ct} {x : Nat} {u : Int} (h : Cut17 l x p q u) : tot17 l = tot17 p + u + tot17 q := by
  rw [h.eq]
  unfold tot17 one17
  by_cases hu : u = 0
  · subst hu; simp
  · have hb : (u == 0) = false := beq_eq_false_iff_ne.mpr hu
    simp [hb]; omega
theorem Cut17.same {l m p q : List Ct} {x : Nat} {u : Int} (h : Cut17 l x p q u) (k : Cut17 m x p q u) : l = m := by rw [h.eq, k.eq]
theorem one_length (x : Nat) (u : Int) : (one17 x u).length ≤ 1 := by unfold one17; split <;> simp
theorem Cut17.right {l m p q : List Ct} {x : Nat} {u v : Int} (h : Cut17 l x p q u) (k : Cut17 m x p q v) (hr : right17 l = true) (hx : x % 64 = 0) (hv : 0 ≤ v ∧ v ≤ 65535) (hl : l.length < 4096) : right17 m = true := by
  rw [right17_iff] at hr ⊢
  obtain ⟨h1, h2, h3⟩ := hr
  have hlen : m.length ≤ l.length + 1 := by
    rw [h.eq, k.eq]; simp only [List.length_append]; have := one_length x v; omega
  rw [h.eq] at h1 h2
  rw [k.eq]
  rw [List.pairwise_append, List.pairwise_append] at h2
  have hone : ∀ c ∈ one17 x v, c.b = x ∧ c.good := by
    intro c hc
    unfold one17 at hc
    split at hc
    · simp at hc
    · rename_i hv0
      simp at hv0 hc
      subst hc
      exact ⟨rfl, hx, by simp only; omega, hv.2⟩
  refine ⟨?_, ?_, by rw [k.eq] at hlen; omega⟩
  · intro c hc
    simp only [List.mem_append] at hc
    rcases hc with hc | hc | hc
    · exact h1 c (by simp [hc])
    · exact (hone c hc).2
    · exact h1 c (by simp [hc])
  · rw [List.pairwise_append, List.pairwise_append]
    refine ⟨h2.1, ⟨?_, h2.2.1.2.1, ?_⟩, ?_⟩
    · unfold one17; split <;> simp
    · intro a ha b hb
      rw [(hone a ha).1]; exact h.more b hb
    · intro a ha b hb
      rcases List.mem_append.1 hb with hb | hb
      · rw [(hone b hb).1]; exact h.less a ha
      · have := h.less a ha; have := h.more b hb; omega
theorem Cut17.mem {l m p q : List Ct} {x : Nat} {u v : Int} (h : Cut17 l x p q u) (k : Cut17 m x p q v) : ∀ c ∈ m, c ∈ l ∨ c.b = x := by
  intro c hc
  rw [k.eq] at hc
  rw [h.eq]
  simp only [List.mem_append] at hc ⊢
  rcases hc with hc | hc | hc
  · exact .inl (.inl hc)
  · right
    unfold one17 at hc
    split at hc <;> simp at hc
    rw [hc]
  · exact .inl (.inr (.inr hc))
theorem may_true {l : List Ct} {m : Int} (h : right17 l = true) (h0 : 0 ≤ m) (h1 : m ≤ 65535) : may17 l m = true := by
  unfold may17; rw [h, decide_eq_true ⟨h0, h1⟩]; rfl
theorem may_of {l : List Ct} {m : Int} (h : may17 l m = true) : right17 l = true ∧ 0 ≤ m ∧ m ≤ 65535 := by
  unfold may17 at h
  rw [Bool.and_eq_true] at h
  exact ⟨h.1, of_decide_eq_true h.2⟩
theorem cut_of {l : List Ct} (x : Nat) (h : right17 l = true) : ∃ p q, Cut17 l x p q (of17 l x) := by
  obtain ⟨h1, h2, _⟩ := (right17_iff l).1 h
  obtain ⟨p, q, u, hc, _⟩ := cut_at x l h1 h2
  exact ⟨p, q, by rw [hc.of]; exact hc⟩
theorem back17 {l : List Ct} {x : Nat} {m : Int} (hx : x % 64 = 0) (hl : l.length < 4095) (h : (add17p l x m).2 = 0) :
    right17 l = true ∧ ∃ l2, add17p l x m = (l2, 0) ∧ right17 l2 = true ∧ l2.length < 4096 ∧ sub17p l2 x m = (l, 0) ∧ tot17 l2 = tot17 l + m ∧ ∀ c ∈ l2, c ∈ l ∨ c.b = x := by
  unfold add17p at h
  cases hq : may17 l m with
  | false => rw [hq] at h; simp at h
  | true =>
    obtain ⟨hr, h0, h1⟩ := may_of hq
    obtain ⟨b0, b1⟩ := of17_bounds x hr
    by_cases hov : of17 l x > 65535 - m
    · rw [hq, if_pos rfl, if_pos hov] at h; simp at h
    · obtain ⟨p, q, hc⟩ := cut_of x hr
      have hc2 := hc.set (of17 l x + m)
      have hr2 := hc.right hc2 hr hx (by omega) (by omega)
      have hlen : (set17 l x (of17 l x + m)).length < 4096 := by
        have e1 := congrArg List.length hc.eq
        have e2 := congrArg List.length hc2.eq
        simp only [List.length_append] at e1 e2
        have := one_length x (of17 l x + m)
        omega
      refine ⟨hr, set17 l x (of17 l x + m), ?_, hr2, hlen, ?_, ?_, hc.mem hc2⟩
      · unfold add17p set17p
        rw [hq, if_pos rfl, if_neg hov, may_true hr (by omega) (by omega), if_pos rfl]
      · unfold sub17p set17p
        rw [may_true hr2 h0 h1, if_pos rfl, hc2.of, show max (of17 l x + m - m) 0 = of17 l x by omega, may_true hr2 b0 b1, if_pos rfl]
        rw [(hc2.set (of17 l x)).same hc]
      · rw [hc2.tot, hc.tot]; omega
theorem add17_bad {l : List Ct} {x : Nat} {m : Int} (h : (add17p l x m).2 ≠ 0) : (add17p l x m).1 = [] := by
  unfold add17p set17p at *
  split
  · split
    · rfl
    · split
      · rename_i h1 h2 h3; rw [if_pos h1, if_neg h2, if_pos h3] at h; simp at h
      · rfl
  · rfl
end Go.Proofs.Ytcepknjcgknidaa
