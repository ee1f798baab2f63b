
/- Chapter 11: a disk that has both files, and is not armed; what Open leaves there. -/
import Derived.Test.YtnkjekkdndjfaaaGreatStoreF
namespace Go.Proofs.YtnkjekkdndjfaaaGreat
set_option linter.unusedVariables false
set_option linter.unusedSimpArgs false
open Go.RowKit
theorem next_take11 {b p : List UInt8} {n m : Nat} (h : nextF b = (0, p, n)) (hm : n ≤ m) : nextF (b.take m) = (0, p, n) := by
  by_cases h0 : b.length = 0
  · rw [next_none h0] at h; cases h
  by_cases h8 : b.length < 8
  · rw [next_short h0 h8] at h; cases h
  by_cases hf : lenAt b < 1 ∨ 1048576 < lenAt b
  · rw [next_form (by omega) hf] at h; cases h
  by_cases hl : b.length - 8 < lenAt b
  · rw [next_more (by omega) hf hl] at h; cases h
  by_cases hs : ofN ((b.drop 8).take (lenAt b)) = sumAt b
  · rw [next_ok (by omega) hf hl hs] at h
    simp only [Prod.mk.injEq, true_and] at h
    obtain ⟨rfl, rfl⟩ := h
    have e1 : lenAt (b.take m) = lenAt b := by unfold lenAt; rw [List.take_take, Nat.min_eq_left (by omega)]
    have e2 : sumAt (b.take m) = sumAt b := by unfold sumAt; rw [List.drop_take, List.take_take, Nat.min_eq_left (by omega)]
    have e3 : ((b.take m).drop 8).take (lenAt b) = (b.drop 8).take (lenAt b) := by rw [List.drop_take, List.take_take, Nat.min_eq_left (by omega)]
    have hlen : (b.take m).length = min m b.length := List.length_take
    rw [next_ok (by omega) (by rw [e1]; exact hf) (by rw [e1]; omega) (by rw [e1, e2, e3]; exact hs), e1, e3]
  · rw [next_sum (by omega) hf hl hs] at h; cases h
theorem allR_take11 {b : List UInt8} {rs : List (List UInt8)} {a e : Nat} (h : AllR b rs a e) : AllR (b.take a) rs a 6 := by
  induction h with
  | stop b e h he => exact AllR.stop _ _ rfl (by decide)
  | step b p n rs a e h hr ih =>
    have h2 := next_take11 h (Nat.le_add_right n a)
    refine AllR.step _ _ _ _ _ _ h2 ?_
    rw [List.drop_take, Nat.add_sub_cancel_left]
    exact ih
theorem allR_ex11 : ∀ (n : Nat) (b : List UInt8), b.length ≤ n → ∃ rs a e, AllR b rs a e := by
  intro n
  induction n with
  | zero =>
    intro b hb
    refine ⟨[], 0, 6, AllR.stop b 6 ?_ (by decide)⟩
    unfold nextF
    rw [if_pos (by omega)]
  | succ n ih =>
    intro b hb
    by_cases h : (nextF b).1 = 0
    · have h2 := next_zero b h
      have h3 := next_le b
      obtain ⟨rs, a, e, hr⟩ := ih (b.drop (nextF b).2.2) (by rw [List.length_drop]; omega)
      refine ⟨(nextF b).2.1 :: rs, (nextF b).2.2 + a, e, AllR.step b _ _ rs a e ?_ hr⟩
      rw [← h]
    · exact ⟨[], 0, _, AllR.stop b _ rfl h⟩
theorem wr_free (left : Int) : wrP false false left = ⟨0, false, false, left⟩ := rfl
structure D11 (d : PD) (M K : Nat) (a b : List UInt8) (s : Int) : Prop where
  ok : d.Ok M K
  lost : d.lost = false
  arm : d.armed = false
  sn : ∃ t : Int, findF d.fs snapN = some ⟨snapN, a, none, 0, 0, t⟩
  lg : findF d.fs logN = some ⟨logN, b, none, 0, 0, s⟩
  s0 : 0 ≤ s ∧ s ≤ (b.length : Int)
section
variable {d : PD} {M K : Nat} {a b : List UInt8} {s : Int}
theorem ap_free {k : ByteArray} (y : List UInt8) (hl : d.lost = false) (har : d.armed = false) (hasc : AscF d.fs) (hk : k.size ≠ 0) (j : ByteArray) :
    findF (d.out (d.apO k y)).fs j = (if j = k then some ⟨k, (getF d.fs k).b ++ y, none, 0, 0, (getF d.fs k).s⟩ else findF d.fs j) ∧ (d.out (d.apO k y)).lost = false := by
  unfold PD.out PD.apO apO
  rw [if_neg hk, hl, har, wr_free]
  simp only [Bool.false_eq_true, if_false]
  rw [findF_apply _ false hasc]
  exact ⟨by simp, trivial⟩
theorem D11.made (a b : List UInt8) : D11 ((PD.new.out (PD.new.apO snapN a)).out ((PD.new.out (PD.new.apO snapN a)).apO logN b)) (0 + a.length + b.length) (0 + 1 + 1) a b 0 := by
  have ok1 := ok_ap PD.Ok.new snapN snapN_mx a
  have ok2 := ok_ap ok1 logN logN_hi b
  have f1 := fun j => ap_free (d := PD.new) (k := snapN) a rfl rfl PD.Ok.new.asc (by decide) j
  have l1 := (f1 snapN).2
  have f2 := fun j => ap_free (d := PD.new.out (PD.new.apO snapN a)) (k := logN) b l1 rfl ok1.asc (by decide) j
  have g0 : getF PD.new.fs snapN = Fi.zero := rfl
  have h1 : findF (PD.new.out (PD.new.apO snapN a)).fs logN = none := by rw [(f1 logN).1, if_neg log_snap]; rfl
  refine ⟨ok2, (f2 logN).2, rfl, ⟨0, ?_⟩, ?_, ⟨Int.le_refl _, by omega⟩⟩
  · rw [(f2 snapN).1, if_neg (Ne.symm log_snap), (f1 snapN).1, if_pos rfl, g0]
    rfl
  · rw [(f2 logN).1, if_pos rfl, getF_none h1]
    rfl
def bcA (a : List UInt8) : Int := if wholeB a then (if okS (a.take (a.length - 4)) then 0 else 3) else 5
def bsA (a : List UInt8) : SL := if wholeB a then ⟨(rdS (a.take (a.length - 4))).rev, (rdS (a.take (a.length - 4))).l⟩ else ⟨0, []⟩
theorem D11.bs (h : D11 d M K a b s) : bsC d = bcA a ∧ bsS d = bsA a := by
  obtain ⟨t, h1⟩ := h.sn
  have hr : d.rc snapN = 0 := by unfold PD.rc rdCode; rw [h1, h.lost]; rfl
  have hb : d.rb snapN = a := by unfold PD.rb rdBytes; rw [getF_some h1, h1, h.lost]; rfl
  unfold bsC bsS ldC ldB bcA bsA
  rw [hr, hb, if_pos rfl, if_pos rfl]
  by_cases hw : wholeB a = true
  · rw [if_pos hw, if_pos hw, if_pos rfl, if_pos rfl, if_pos hw, if_pos hw]
    exact ⟨rfl, rfl⟩
  · have hw2 : wholeB a = false := by simpa using hw
    simp [hw2]
theorem bcA_two (a : List UInt8) : bcA a = 0 ∨ bcA a = 3 ∨ bcA a = 5 := by
  unfold bcA
  split
  · split
    · exact .inl rfl
    · exact .inr (.inl rfl)
  · exact .inr (.inr rfl)
theorem D11.rc (h : D11 d M K a b s) : d.rc logN = 0 ∧ d.rb logN = b ∧ d.su logN = s := by
  refine ⟨by unfold PD.rc rdCode; rw [h.lg, h.lost]; rfl, by unfold PD.rb rdBytes; rw [getF_some h.lg, h.lg, h.lost]; rfl, by unfold PD.su; rw [getF_some h.lg]⟩
theorem go_free {new : List Fi} (hl : d.lost = false) (har : d.armed = false) {k : ByteArray} (hf : (findF d.fs k).isSome = true) : goO d.fs k d.lost d.armed d.left false new = ⟨0, new, false, d.left⟩ := by
  unfold goO
  rw [if_neg (by rw [hf]; simp), if_neg (by simp), hl, har, wr_free]
  rfl
theorem D11.mend (h : D11 d M K a b s) {at_ : Nat} (hat : at_ ≤ b.length) : (mendO d logN (b.length : Nat) at_).code = 0 ∧ D11 (d.out (mendO d logN (b.length : Nat) at_)) M K a (b.take at_) at_ := by
  have hsome : (findF d.fs logN).isSome = true := by rw [h.lg]; rfl
  have hlen : ((b.take at_).length : Int) = (at_ : Int) := by rw [List.length_take]; omega
  obtain ⟨t, hsn⟩ := h.sn
  have hok : (d.out (mendO d logN (b.length : Nat) at_)).Ok M K := by
    unfold mendO
    split
    · exact ok_cu h.ok logN at_ logN_hi
    · split
      · exact ok_sy h.ok logN logN_hi
      · exact h.ok
  by_cases h1 : (at_ : Int) < ((b.length : Nat) : Int)
  · have e : mendO d logN (b.length : Nat) at_ = ⟨0, applyF ⟨logN, b.take at_, none, 0, 0, (at_ : Int)⟩ false d.fs, false, d.left⟩ := by
      unfold mendO
      rw [if_pos h1]
      unfold PD.cuO cuO
      rw [getF_some h.lg]
      simp only
      rw [decide_eq_false (show ¬ ((at_ : Int) < 0) by omega), decide_eq_false (show ¬ ((b.length : Int) < (at_ : Int)) by omega), Bool.or_false, go_free h.lost h.arm hsome]
      simp
    rw [e] at hok ⊢
    have hfa := findF_apply ⟨logN, b.take at_, none, 0, 0, (at_ : Int)⟩ false h.ok.asc
    exact ⟨rfl, hok, rfl, h.arm, ⟨t, by show findF (applyF _ _ _) _ = _; rw [hfa, if_neg (Ne.symm log_snap)]; exact hsn⟩, by show findF (applyF _ _ _) _ = _; rw [hfa, if_pos rfl]; rfl, by omega⟩
  · have hat2 : at_ = b.length := by omega
    have htk : b.take at_ = b := by rw [hat2, List.take_length]
    rw [htk]
    have hsu := h.rc.2.2
    by_cases h2 : s < ((b.length : Nat) : Int)
    · have e : mendO d logN (b.length : Nat) at_ = ⟨0, applyF ⟨logN, b, none, 0, 0, ((b.length : Nat) : Int)⟩ false d.fs, false, d.left⟩ := by
        unfold mendO
        rw [if_neg h1, hsu, if_pos h2]
        unfold PD.syO syO
        rw [getF_some h.lg]
        simp only
        rw [go_free h.lost h.arm hsome]
      rw [e] at hok ⊢
      have hfa := findF_apply ⟨logN, b, none, 0, 0, ((b.length : Nat) : Int)⟩ false h.ok.asc
      exact ⟨rfl, hok, rfl, h.arm, ⟨t, by show findF (applyF _ _ _) _ = _; rw [hfa, if_neg (Ne.symm log_snap)]; exact hsn⟩, by show findF (applyF _ _ _) _ = _; rw [hfa, if_pos rfl, hat2]; rfl, by omega⟩
    · have e : mendO d logN (b.length : Nat) at_ = ⟨0, d.fs, d.lost, d.left⟩ := by
        unfold mendO
        rw [if_neg h1, hsu, if_neg h2]
      rw [e] at hok ⊢
      have hs : s = (at_ : Int) := by have := h.s0; omega
      exact ⟨rfl, hok, h.lost, h.arm, ⟨t, hsn⟩, by rw [← hs]; exact h.lg, by omega⟩
end
end Go.Proofs.YtnkjekkdndjfaaaGreat
