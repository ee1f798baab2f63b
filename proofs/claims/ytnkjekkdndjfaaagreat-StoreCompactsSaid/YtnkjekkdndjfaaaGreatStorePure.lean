
/- Chapter 11 as data: what a store's state is, by its snapshot and its log. -/
import Derived.Test.YtnkjekkdndjfaaaGreatSnA
import Derived.Test.YtnkjekkdndjfaaaGreatRedoBackWalk
namespace Go.Proofs.YtnkjekkdndjfaaaGreat
set_option linter.unusedVariables false
set_option linter.unusedSimpArgs false
open Go.RowKit
abbrev snapN : ByteArray := ⟨#[115, 110, 97, 112]⟩
abbrev logN : ByteArray := ⟨#[108, 111, 103]⟩
theorem snapN_lo : 1 ≤ snapN.size := by show 1 ≤ 4; omega
theorem logN_lo : 1 ≤ logN.size := by show 1 ≤ 3; omega
theorem snapN_hi : snapN.size + 1 ≤ maxLen := by show (5 : Nat) ≤ maxLen; simp only [maxLen]; omega
theorem snapN_mx : snapN.size ≤ maxLen := by show (4 : Nat) ≤ maxLen; simp only [maxLen]; omega
theorem logN_hi : logN.size ≤ maxLen := by show (3 : Nat) ≤ maxLen; simp only [maxLen]; omega
theorem log_snap : logN ≠ snapN := by decide
/-- a state: a revision, and items -/
structure SL where
  rev : Int
  l : List It
/-- the state of the file that has all, or why there is none -/
def bsC (d : PD) : Int := if ldC d snapN = 0 then (if okS (ldB d snapN) then 0 else 3) else if ldC d snapN = 6 then 0 else ldC d snapN
def bsS (d : PD) : SL := if ldC d snapN = 0 then ⟨(rdS (ldB d snapN)).rev, (rdS (ldB d snapN)).l⟩ else ⟨0, []⟩
/-- behind the records of a log -/
def rplS : SL → List (List UInt8) → Int × SL
  | s, [] => (0, s)
  | s, p :: ps =>
    if okE p then
      if (rdE p).e.r ≤ s.rev then rplS s ps
      else if apOk s.rev s.l (rdE p).e then rplS ⟨(rdE p).e.r, applyL (rdE p).e.it (rdE p).e.g s.l⟩ ps else (3, s)
    else (3, s)
theorem rplS_two : ∀ (ps : List (List UInt8)) (s : SL), (rplS s ps).1 = 0 ∨ (rplS s ps).1 = 3
  | [], s => .inl rfl
  | p :: ps, s => by
    rw [rplS]
    split
    · split
      · exact rplS_two ps s
      · split
        · exact rplS_two ps _
        · exact .inr rfl
    · exact .inr rfl
/-- the keys of a state -/
def Ks (s : SL) : Prop := ∀ x ∈ s.l, keyB x.k = true
theorem Ks.sizes {s : SL} (h : Ks s) : ∀ x ∈ s.l, x.k.size ≤ 1000 := fun x hx => by have := (keyB_iff x.k).1 (h x hx); omega
theorem apOk_key {rev : Int} {l : List It} {e : Eff} (h : apOk rev l e = true) : keyB e.k = true := by
  unfold apOk at h
  simp only [Bool.and_eq_true] at h
  exact h.1.1.1.1
theorem Ks.apply {s : SL} (h : Ks s) (ha : Asc s.l) {e : Eff} (he : keyB e.k = true) : Ks ⟨e.r, applyL e.it e.g s.l⟩ := by
  intro x hx
  rcases applyL_mem ha hx with rfl | hx
  · exact he
  · exact h x hx
theorem bsS_ks (d : PD) (h : bsC d = 0) : Ks (bsS d) ∧ (bsS d).rev < 9223372036854775808 := by
  unfold bsC at h
  unfold bsS
  split
  · rename_i h0
    rw [if_pos h0] at h
    by_cases h1 : okS (ldB d snapN) = true
    · obtain ⟨h2, _⟩ := okS_right (rev := (rdS (ldB d snapN)).rev) (l := (rdS (ldB d snapN)).l) (s := (rdS (ldB d snapN)).s) h1 rfl
      exact ⟨fun x hx => ((rightL_ok h2).2 x hx).1, rdS_hi _⟩
    · rw [if_neg h1] at h; cases h
  · exact ⟨(fun x hx => by cases hx), (by simp)⟩
end Go.Proofs.YtnkjekkdndjfaaaGreat
