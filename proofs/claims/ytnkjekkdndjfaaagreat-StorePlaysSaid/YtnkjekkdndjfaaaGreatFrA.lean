
/- Records one behind the other, as plain functions on bytes. No program is named here. -/
import Derived.Test.YtnkjekkdndjfaaaGreatBase
import Derived.Test.YtnkjekkdndjfaaaGreatSumA
import Derived.Test.YtnkjekkdndjfaaaGreatPkA
import Derived.Test.YtnkjekkdndjfaaaGreatBytes
import Derived.Test.YtnkjekkdndjfaaaGreatRgA
namespace Go.Proofs.YtnkjekkdndjfaaaGreat
set_option linter.unusedVariables false
set_option linter.unusedSimpArgs false

/-- a record's frame -/
def frameL (p : List UInt8) : List UInt8 := putN p.length 4 ++ (putN (ofN p) 4 ++ p)
theorem frameL_length (p : List UInt8) : (frameL p).length = 8 + p.length := by
  simp only [frameL, List.length_append, putN_length]
  omega

/-- the number at the beginning, and behind it -/
def lenAt (b : List UInt8) : Nat := num (b.take 4)
def sumAt (b : List UInt8) : Nat := num ((b.drop 4).take 4)
/-- the record at the beginning: a code (0: there is one), its bytes, how many bytes its frame has -/
def nextF (b : List UInt8) : Nat × List UInt8 × Nat :=
  if b.length = 0 then (6, [], 0)
  else if b.length < 8 then (4, [], 0)
  else if lenAt b < 1 ∨ 1048576 < lenAt b then (3, [], 0)
  else if b.length - 8 < lenAt b then (4, [], 0)
  else if ofN ((b.drop 8).take (lenAt b)) ≠ sumAt b then (5, [], 0)
  else (0, (b.drop 8).take (lenAt b), lenAt b + 8)

theorem num_lt_pow : ∀ (l : List UInt8), l.length ≤ 7 → num l < 256 ^ l.length := by
  intro l
  induction hn : l.length generalizing l with
  | zero =>
    intro _
    have : l = [] := List.eq_nil_of_length_eq_zero hn
    subst this
    simp [num]
  | succ k ih =>
    intro hk
    rcases List.eq_nil_or_concat l with rfl | ⟨l', c, rfl⟩
    · simp at hn
    · rw [List.concat_eq_append] at hn ⊢
      have hl : l'.length = k := by simpa using hn
      have h1 := ih l' hl (by omega)
      have hc := c.toNat_lt
      rw [num_snoc]
      have h2 : num l' * 256 + c.toNat < 256 ^ (k + 1) := by rw [Nat.pow_succ]; omega
      exact Nat.lt_of_le_of_lt (Nat.mod_le _ _) h2
theorem lenAt_lt (b : List UInt8) : lenAt b < 4294967296 := by
  unfold lenAt
  have h := num_lt_pow (b.take 4) (by simp; omega)
  have : 256 ^ (b.take 4).length ≤ 256 ^ 4 := Nat.pow_le_pow_right (by omega) (by simp; omega)
  omega
theorem sumAt_lt (b : List UInt8) : sumAt b < 4294967296 := by
  unfold sumAt
  have h := num_lt_pow ((b.drop 4).take 4) (by simp; omega)
  have : 256 ^ ((b.drop 4).take 4).length ≤ 256 ^ 4 := Nat.pow_le_pow_right (by omega) (by simp; omega)
  omega

/-- a number as bytes is that number -/
theorem num_put : ∀ (k x : Nat), k ≤ 8 → x < 256 ^ k → num (putN x k) = x := by
  intro k
  induction k with
  | zero => intro x _ hx; simp at hx; subst hx; rfl
  | succ k ih =>
    intro x hk hx
    rw [Nat.pow_succ] at hx
    rw [putN, num_snoc, ih (x / 256) (by omega) (by omega), UInt8.toNat_ofNat']
    have hp : 256 ^ (k + 1) ≤ 256 ^ 8 := Nat.pow_le_pow_right (by omega) hk
    rw [Nat.pow_succ] at hp
    have h1 : x / 256 * 256 + x % 2 ^ 8 = x := by omega
    rw [h1]
    exact Nat.mod_eq_of_lt (by omega)

theorem lenAt_frame (p r : List UInt8) (hp : p.length ≤ 1048576) : lenAt (frameL p ++ r) = p.length := by
  unfold lenAt frameL
  rw [List.append_assoc, List.take_left' (putN_length _ _)]
  exact num_put 4 _ (by omega) (by omega)
theorem sumAt_frame (p r : List UInt8) : sumAt (frameL p ++ r) = ofN p := by
  unfold sumAt frameL
  rw [List.append_assoc, List.drop_left' (putN_length _ _), List.append_assoc, List.take_left' (putN_length _ _)]
  exact num_put 4 _ (by omega) (of_lt p)
theorem drop8_frame (p r : List UInt8) : (frameL p ++ r).drop 8 = p ++ r := by
  unfold frameL
  rw [← List.append_assoc (putN p.length 4), List.append_assoc (putN p.length 4 ++ putN (ofN p) 4), List.drop_left' (by simp [putN_length])]
/-- a frame is read as its record, whatever stands behind -/
theorem next_frame (p r : List UInt8) (h1 : 1 ≤ p.length) (h2 : p.length ≤ 1048576) : nextF (frameL p ++ r) = (0, p, p.length + 8) := by
  have hl : (frameL p ++ r).length = 8 + p.length + r.length := by rw [List.length_append, frameL_length]
  unfold nextF
  rw [lenAt_frame p r h2, sumAt_frame, drop8_frame, List.take_left, if_neg (by omega), if_neg (by omega), if_neg (by omega), if_neg (by omega), if_neg (by simp)]

theorem next_code (b : List UInt8) : (nextF b).1 ≠ 0 → nextF b = ((nextF b).1, [], 0) := by
  unfold nextF
  repeat' split
  all_goals simp
theorem next_le (b : List UInt8) : (nextF b).2.2 ≤ b.length := by
  unfold nextF
  repeat' split
  all_goals simp
  omega
theorem next_zero (b : List UInt8) (h : (nextF b).1 = 0) : 8 < (nextF b).2.2 ∧ (nextF b).2.1.length + 8 = (nextF b).2.2 := by
  revert h
  unfold nextF
  repeat' split
  all_goals simp
  omega

/-- all records of bytes, where they end, and why -/
inductive AllR : List UInt8 → List (List UInt8) → Nat → Nat → Prop
  | stop (b : List UInt8) (e : Nat) (h : (nextF b).1 = e) (he : e ≠ 0) : AllR b [] 0 e
  | step (b p : List UInt8) (n : Nat) (rs : List (List UInt8)) (a e : Nat) (h : nextF b = (0, p, n)) (hr : AllR (b.drop n) rs a e) : AllR b (p :: rs) (n + a) e
theorem AllR.det {b : List UInt8} {rs : List (List UInt8)} {a e : Nat} (h : AllR b rs a e) : ∀ {rs' : List (List UInt8)} {a' e' : Nat}, AllR b rs' a' e' → rs = rs' ∧ a = a' ∧ e = e' := by
  induction h with
  | stop b e h he =>
    intro rs' a' e' h'
    cases h' with
    | stop _ _ h2 he2 => exact ⟨rfl, rfl, h.symm.trans h2⟩
    | step _ p n rs a _ h2 hr => rw [h2] at h; exact absurd h.symm he
  | step b p n rs a e h hr ih =>
    intro rs' a' e' h'
    cases h' with
    | stop _ _ h2 he2 => rw [h] at h2; exact absurd h2.symm he2
    | step _ p2 n2 rs2 a2 _ h2 hr2 =>
      rw [h] at h2
      simp only [Prod.mk.injEq, true_and] at h2
      obtain ⟨rfl, rfl⟩ := h2
      obtain ⟨rfl, rfl, rfl⟩ := ih hr2
      exact ⟨rfl, rfl, rfl⟩

/-- so many were got, up to a place -/
def Got (b : List UInt8) (ys : List (List UInt8)) (at_ : Nat) : Prop := at_ ≤ b.length ∧ ∀ rs a e, AllR (b.drop at_) rs a e → AllR b (ys ++ rs) (at_ + a) e
theorem Got.nil (b : List UInt8) : Got b [] 0 := ⟨Nat.zero_le _, fun rs a e h => by simpa using h⟩
theorem Got.step {b : List UInt8} {ys : List (List UInt8)} {at_ : Nat} (h : Got b ys at_) {p : List UInt8} {n : Nat} (hn : nextF (b.drop at_) = (0, p, n)) : Got b (ys ++ [p]) (at_ + n) := by
  refine ⟨?_, fun rs a e hr => ?_⟩
  · have := next_le (b.drop at_)
    rw [hn] at this
    have h1 := h.1
    simp at this
    omega
  · have := h.2 _ _ _ (AllR.step _ _ _ _ _ _ hn (by rw [List.drop_drop]; exact hr))
    rw [List.append_assoc, Nat.add_assoc]
    exact this
theorem Got.stop {b : List UInt8} {ys : List (List UInt8)} {at_ e : Nat} (h : Got b ys at_) (he : (nextF (b.drop at_)).1 = e) (he0 : e ≠ 0) : AllR b ys at_ e := by
  have := h.2 _ _ _ (AllR.stop _ _ he he0)
  simpa using this

/-- frames one behind the other -/
def framesL (ws : List (List UInt8)) : List UInt8 := ws.flatMap frameL
theorem all_frames (ws : List (List UInt8)) (h : ∀ p ∈ ws, 1 ≤ p.length ∧ p.length ≤ 1048576) : AllR (framesL ws) ws (framesL ws).length 6 := by
  induction ws with
  | nil => exact AllR.stop _ _ rfl (by omega)
  | cons p ws ih =>
    have hp := h p (by simp)
    have e1 : framesL (p :: ws) = frameL p ++ framesL ws := rfl
    have hd : (frameL p ++ framesL ws).drop (p.length + 8) = framesL ws := List.drop_left' (by rw [frameL_length]; omega)
    have := AllR.step _ _ _ _ _ _ (next_frame p (framesL ws) hp.1 hp.2) (by rw [hd]; exact ih fun q hq => h q (by simp [hq]))
    rw [e1, List.length_append, frameL_length, Nat.add_comm 8]
    exact this

theorem u4_full (l r : List UInt8) (h : l.length = 4) : (⟨l ++ r, false⟩ : St).u 4 = (num l, ⟨r, false⟩) := by
  unfold St.u
  rw [if_neg (by omega)]
  have := St.bytes_front l r
  rw [h] at this
  rw [show (4 : Int) = ((4 : Nat) : Int) from rfl, this]
theorem u4_first (b : List UInt8) (h : 8 ≤ b.length) : (⟨b.take 8, false⟩ : St).u 4 = (lenAt b, ⟨(b.drop 4).take 4, false⟩) := by
  have h1 : b.take 8 = b.take 4 ++ (b.drop 4).take 4 := by rw [show 8 = 4 + 4 from rfl, List.take_add]
  rw [h1, u4_full _ _ (by simp; omega)]
  rfl
theorem u4_second (b : List UInt8) (h : 8 ≤ b.length) : (⟨(b.drop 4).take 4, false⟩ : St).u 4 = (sumAt b, ⟨[], false⟩) := by
  have := u4_full ((b.drop 4).take 4) [] (by simp; omega)
  rw [List.append_nil] at this
  exact this
theorem u4_short (b : List UInt8) (h : b.length < 8) : (((⟨b, false⟩ : St).u 4).2.u 4).2.bad = true := by
  by_cases h4 : 4 ≤ b.length
  · have h1 : b = b.take 4 ++ b.drop 4 := (List.take_append_drop 4 b).symm
    rw [h1, u4_full _ _ (by simp; omega)]
    unfold St.u
    rw [if_neg (by omega), St.bytes_bad (.inr (.inr (by simp; omega)))]
  · have h1 : ((⟨b, false⟩ : St).u 4).2 = ⟨b, true⟩ := by
      unfold St.u
      rw [if_neg (by omega), St.bytes_bad (.inr (.inr (by simp; omega)))]
    rw [h1]
    unfold St.u
    rw [if_neg (by omega), St.bytes_bad (.inl rfl)]
theorem next_short {b : List UInt8} (h0 : b.length ≠ 0) (h : b.length < 8) : nextF b = (4, [], 0) := by
  unfold nextF; rw [if_neg h0, if_pos h]
theorem next_none {b : List UInt8} (h0 : b.length = 0) : nextF b = (6, [], 0) := by
  unfold nextF; rw [if_pos h0]
theorem next_form {b : List UInt8} (h : 8 ≤ b.length) (hf : lenAt b < 1 ∨ 1048576 < lenAt b) : nextF b = (3, [], 0) := by
  unfold nextF; rw [if_neg (by omega), if_neg (by omega), if_pos hf]
theorem next_more {b : List UInt8} (h : 8 ≤ b.length) (hf : ¬ (lenAt b < 1 ∨ 1048576 < lenAt b)) (hm : b.length - 8 < lenAt b) : nextF b = (4, [], 0) := by
  unfold nextF; rw [if_neg (by omega), if_neg (by omega), if_neg hf, if_pos hm]
theorem next_sum {b : List UInt8} (h : 8 ≤ b.length) (hf : ¬ (lenAt b < 1 ∨ 1048576 < lenAt b)) (hm : ¬ b.length - 8 < lenAt b) (hs : ofN ((b.drop 8).take (lenAt b)) ≠ sumAt b) : nextF b = (5, [], 0) := by
  unfold nextF; rw [if_neg (by omega), if_neg (by omega), if_neg hf, if_neg hm, if_pos hs]
theorem next_ok {b : List UInt8} (h : 8 ≤ b.length) (hf : ¬ (lenAt b < 1 ∨ 1048576 < lenAt b)) (hm : ¬ b.length - 8 < lenAt b) (hs : ofN ((b.drop 8).take (lenAt b)) = sumAt b) : nextF b = (0, (b.drop 8).take (lenAt b), lenAt b + 8) := by
  unfold nextF; rw [if_neg (by omega), if_neg (by omega), if_neg hf, if_neg hm, if_neg (by simp [hs])]

/-! frames that are cut off -/
def tornN : List (List UInt8) → Nat → Nat × Nat
  | [], _ => (0, 0)
  | p :: ws, cut => if 8 + p.length ≤ cut then ((tornN ws (cut - (8 + p.length))).1 + 1, (tornN ws (cut - (8 + p.length))).2 + (8 + p.length)) else (0, 0)
theorem tornN_le : ∀ (ws : List (List UInt8)) (cut : Nat), (tornN ws cut).1 ≤ ws.length ∧ (tornN ws cut).2 ≤ cut
  | [], _ => ⟨Nat.le_refl _, Nat.zero_le _⟩
  | p :: ws, cut => by
    have h := tornN_le ws (cut - (8 + p.length))
    unfold tornN
    split
    · simp only [List.length_cons]; omega
    · simp

theorem lenAt_take (p : List UInt8) (cut : Nat) (h8 : 8 ≤ cut) (hp : p.length ≤ 1048576) : lenAt ((frameL p).take cut) = p.length := by
  have := lenAt_frame p [] hp
  rw [List.append_nil] at this
  unfold lenAt at this ⊢
  rw [List.take_take, Nat.min_eq_left (by omega)]
  exact this

theorem all_torn : ∀ (ws : List (List UInt8)) (cut : Nat), (∀ p ∈ ws, 1 ≤ p.length ∧ p.length ≤ 1048576) → cut ≤ (framesL ws).length →
    AllR ((framesL ws).take cut) (ws.take (tornN ws cut).1) (tornN ws cut).2 (if (tornN ws cut).2 = cut then 6 else 4)
  | [], cut, _, hc => by
    have h0 : cut = 0 := by simpa [framesL] using hc
    subst h0
    exact AllR.stop _ _ rfl (by decide)
  | p :: ws, cut, h, hc => by
    have hp := h p (by simp)
    have e1 : framesL (p :: ws) = frameL p ++ framesL ws := rfl
    rw [e1, List.length_append, frameL_length] at hc
    rw [e1]
    unfold tornN
    by_cases hcut : 8 + p.length ≤ cut
    · rw [if_pos hcut]
      have ih := all_torn ws (cut - (8 + p.length)) (fun q hq => h q (by simp [hq])) (by omega)
      have e2 : (frameL p ++ framesL ws).take cut = frameL p ++ (framesL ws).take (cut - (8 + p.length)) := by
        rw [List.take_append, frameL_length, List.take_of_length_le (by rw [frameL_length]; exact hcut)]
      rw [e2]
      have hd : (frameL p ++ (framesL ws).take (cut - (8 + p.length))).drop (p.length + 8) = (framesL ws).take (cut - (8 + p.length)) := List.drop_left' (by rw [frameL_length]; omega)
      have := AllR.step _ _ _ _ _ _ (next_frame p ((framesL ws).take (cut - (8 + p.length))) hp.1 hp.2) (by rw [hd]; exact ih)
      have e3 : (if (tornN ws (cut - (8 + p.length))).2 + (8 + p.length) = cut then 6 else 4) = (if (tornN ws (cut - (8 + p.length))).2 = cut - (8 + p.length) then 6 else 4) := by
        by_cases hq : (tornN ws (cut - (8 + p.length))).2 = cut - (8 + p.length)
        · rw [if_pos hq, if_pos (by omega)]
        · rw [if_neg hq, if_neg (by omega)]
      simp only [List.take_succ_cons]
      have e4 : (tornN ws (cut - (8 + p.length))).2 + (8 + p.length) = (p.length + 8) + (tornN ws (cut - (8 + p.length))).2 := by omega
      rw [e3]
      show AllR _ _ ((tornN ws (cut - (8 + p.length))).2 + (8 + p.length)) _
      rw [e4]
      exact this
    · rw [if_neg hcut]
      have e2 : (frameL p ++ framesL ws).take cut = (frameL p).take cut := by
        rw [List.take_append_of_le_length (by rw [frameL_length]; omega)]
      rw [e2, List.take_zero]
      have hl : ((frameL p).take cut).length = cut := by rw [List.length_take, frameL_length]; omega
      by_cases h0 : cut = 0
      · subst h0
        exact AllR.stop _ _ rfl (by decide)
      · rw [if_neg (by omega)]
        refine AllR.stop _ _ ?_ (by decide)
        by_cases h8 : cut < 8
        · rw [next_short (by omega) (by omega)]
        · have hla := lenAt_take p cut (by omega) hp.2
          rw [next_more (by omega) (by rw [hla]; omega) (by rw [hla, hl]; omega)]

/-- where frames end -/
def endsL : Nat → List (List UInt8) → List Nat
  | _, [] => []
  | off, p :: ws => (off + (8 + p.length)) :: endsL (off + (8 + p.length)) ws
theorem endsL_snoc (off : Nat) (ws : List (List UInt8)) (p : List UInt8) : endsL off (ws ++ [p]) = endsL off ws ++ [off + (framesL (ws ++ [p])).length] := by
  induction ws generalizing off with
  | nil => simp [endsL, framesL, frameL_length]
  | cons q ws ih =>
    have e : (framesL (q :: ws ++ [p])).length = (8 + q.length) + (framesL (ws ++ [p])).length := by
      show (frameL q ++ framesL (ws ++ [p])).length = _
      rw [List.length_append, frameL_length]
    rw [List.cons_append, endsL, endsL, ih, List.cons_append, Nat.add_assoc off, ← e]
    rfl
theorem endsL_length (off : Nat) (ws : List (List UInt8)) : (endsL off ws).length = ws.length := by
  induction ws generalizing off with
  | nil => rfl
  | cons p ws ih => simp [endsL, ih]
def tornStep (cut : Nat) (s : Nat × Nat) (k : Nat) : Nat × Nat := if k ≤ cut then (s.1 + 1, k) else s
theorem torn_past (cut : Nat) : ∀ (ws : List (List UInt8)) (off : Nat) (s : Nat × Nat), cut < off → (endsL off ws).foldl (tornStep cut) s = s
  | [], _, _, _ => rfl
  | p :: ws, off, s, h => by
    rw [endsL, List.foldl_cons, tornStep, if_neg (by omega)]
    exact torn_past cut ws _ s (by omega)
theorem torn_fold (cut : Nat) : ∀ (ws : List (List UInt8)) (off n0 : Nat), off ≤ cut → (endsL off ws).foldl (tornStep cut) (n0, off) = (n0 + (tornN ws (cut - off)).1, off + (tornN ws (cut - off)).2)
  | [], _, _, _ => rfl
  | p :: ws, off, n0, h => by
    rw [endsL, List.foldl_cons, tornStep, tornN]
    by_cases hc : off + (8 + p.length) ≤ cut
    · rw [if_pos hc, if_pos (by omega), torn_fold cut ws _ (n0 + 1) hc, show cut - (off + (8 + p.length)) = cut - off - (8 + p.length) from by omega]
      simp only [Prod.mk.injEq]
      omega
    · rw [if_neg hc, if_neg (by omega), torn_past cut ws _ _ (by omega)]
      simp
theorem framesL_snoc (ws : List (List UInt8)) (p : List UInt8) : framesL (ws ++ [p]) = framesL ws ++ frameL p := by simp [framesL]
theorem framesL_le (ws : List (List UInt8)) (m : Nat) (h : ∀ p ∈ ws, p.length ≤ m) : (framesL ws).length ≤ ws.length * (8 + m) := by
  induction ws with
  | nil => simp [framesL]
  | cons p ws ih =>
    have h1 := h p (by simp)
    have h2 := ih fun q hq => h q (by simp [hq])
    have e : (framesL (p :: ws)).length = (8 + p.length) + (framesL ws).length := by
      show (frameL p ++ framesL ws).length = _
      rw [List.length_append, frameL_length]
    rw [e, List.length_cons, Nat.succ_mul]
    omega
end Go.Proofs.YtnkjekkdndjfaaaGreat
namespace Go.Proofs.YtnkjekkdndjfaaaGreat
set_option linter.unusedVariables false
set_option linter.unusedSimpArgs false
open Go.RowKit

theorem size_ok (n : Nat) (h1 : 1 ≤ n) (h2 : n ≤ 1048576) (w : World) : Calls Tryz.prog 146 #[.int .i64 (n : Int)] w fun e w' => e = .returned (.int .i64 ((n : Int) + 8)) ∧ w = w' := by
  go_enter Tryz.func146, Tryz.ntmps146
  go_wp2
  go_ret
  exact ⟨by simp; omega, rfl⟩
theorem size_low (n : Int) (h : n < 1) (w : World) : Calls Tryz.prog 146 #[.int .i64 n] w fun e w' => e = .returned (.int .i64 0) ∧ w = w' := by
  go_enter Tryz.func146, Tryz.ntmps146
  go_wp2
  go_ret
  exact ⟨rfl, rfl⟩
theorem size_high (n : Int) (h : 1048576 < n) (w : World) : Calls Tryz.prog 146 #[.int .i64 n] w fun e w' => e = .returned (.int .i64 0) ∧ w = w' := by
  go_enter Tryz.func146, Tryz.ntmps146
  go_wp2
  go_ret
  exact ⟨rfl, rfl⟩

theorem fput_ok (A : Option Addr) (n c : Nat) (l : List UInt8) (w : World) (hr : RdB w w.heap.size A n c l) (h1 : 1 ≤ n) (h2 : n ≤ 1048576) :
    Calls Tryz.prog 120 #[.slice A n c] w fun e w' => ∃ A2 c2, e = .returned (.tuple #[.slice A2 (8 + n) c2, .int .i64 0]) ∧ OwnB w' w.heap.size A2 (8 + n) c2 (frameL l) ∧ Below w.heap.size w w' := by
  obtain rfl : l.length = n := hr.length
  have hlt := of_lt l
  have hne : ((l.length : Int) + 8 == 0) = false := by simp; omega
  go_enter Tryz.func120, Tryz.ntmps120
  go_wp2_with fail
  refine (size_ok _ h1 h2 _).mono ?_
  rintro e w1 ⟨rfl, rfl⟩
  go_wp2_with fail
  refine (put_any none 0 0 [] l.length 4 w RdB.nil (by omega) (by omega) (by omega) (by omega)).mono ?_
  rintro e w1 ⟨A1, c1, rfl, hown1, hb1⟩
  rw [List.nil_append] at hown1
  go_wp2_with fail
  refine (of_any _ _ _ _ _ _ (hr.below hb1)).mono ?_
  rintro e w2 ⟨rfl, rfl⟩
  go_wp2_with fail
  refine (put_any _ _ _ _ (ofN l) 4 w1 hown1.rd (by omega) (by omega) (by omega) (by omega)).mono ?_
  rintro e w2 ⟨A2, c2, rfl, hown2, hb2⟩
  have hb12 := chain hb1 hb2
  have hown2' := hown2.lower hb1.size
  go_wp2_with (at_builtin; refine app_u8 rfl (.tmp 18) (.tmp 19) rfl rfl hown2' rfl (hr.below hb12) ?_ (by omega) hb12.size; intro A3 c3 w3 hown3 hb3 _ _)
  go_ret2
  have e1 : 0 + 4 + 4 + l.length = 8 + l.length := by omega
  rw [List.append_assoc] at hown3
  refine ⟨A3, c3, ?_, hown3, hb12.trans hb3⟩
  simp

theorem fput_zero (A : Option Addr) (c : Nat) (w : World) :
    Calls Tryz.prog 120 #[.slice A 0 c] w fun e w' => e = .returned (.tuple #[.slice none 0 0, .int .i64 1]) ∧ w = w' := by
  go_enter Tryz.func120, Tryz.ntmps120
  go_wp2_with (go_at_call 146; refine (size_low _ (by omega) _).mono ?_; rintro e w1 ⟨rfl, rfl⟩)
  go_ret2
  exact ⟨rfl, rfl⟩

end Go.Proofs.YtnkjekkdndjfaaaGreat
namespace Go.Proofs.YtnkjekkdndjfaaaGreat
set_option linter.unusedVariables false
set_option linter.unusedSimpArgs false
open Go.RowKit

theorem next_nil (A : Option Addr) (c : Nat) (w : World) (hr : RdB w w.heap.size A 0 c []) :
    Calls Tryz.prog 111 #[.slice A 0 c] w fun e w' => e = .returned (.tuple #[.slice none 0 0, .int .i64 0, .int .i64 6]) ∧ Below w.heap.size w w' := by
  have hu1 := fun g w h => u_any g ⟨[], false⟩ 4 w h
  generalize hs1 : (⟨[], false⟩ : St).u 4 = u1 at *
  have hl1 : u1.1 < 18446744073709551616 := by rw [← hs1]; exact St.u_lt _ _
  have hu2 := fun g w h => u_any g u1.2 4 w h
  have hl2 := St.u_lt u1.2 4
  generalize u1.2.u 4 = u2 at *
  clear hs1
  have HU1 := Lib.hid hu1
  have HU2 := Lib.hid hu2
  clear hu1 hu2
  obtain ⟨x1, st1⟩ := u1
  obtain ⟨x2, st2⟩ := u2
  have hle := hr.le
  simp only at hl1 hl2
  go_enter Tryz.func111, Tryz.ntmps111
  go_wp2_with fail
  refine (new_any _ _ _ _ _ hr (by omega)).mono ?_
  rintro e w1 ⟨g, rfl, hg, hI1, hb1⟩
  go_wp2_with fail
  refine (HU1.out _ _ hI1).mono ?_
  rintro e w2 ⟨rfl, hI2, hG2⟩
  go_wp2_with fail
  refine (HU2.out _ _ hI2).mono ?_
  rintro e w3 ⟨rfl, hI3, hG3⟩
  go_wp2_with fail
  all_goals go_ret3
  all_goals exact ⟨rfl, chainG (chainG hb1 hG2 hg) hG3 hg⟩

theorem next_short_any (A : Option Addr) (n c : Nat) (b : List UInt8) (w : World) (hr : RdB w w.heap.size A n c b) (h0 : 0 < n) (h8 : n < 8) :
    Calls Tryz.prog 111 #[.slice A n c] w fun e w' => e = .returned (.tuple #[.slice none 0 0, .int .i64 0, .int .i64 4]) ∧ Below w.heap.size w w' := by
  have hn := hr.length
  have hu1 := fun g w h => u_any g ⟨b, false⟩ 4 w h
  have hbad := u4_short b (by omega)
  generalize hs1 : (⟨b, false⟩ : St).u 4 = u1 at *
  have hl1 : u1.1 < 18446744073709551616 := by rw [← hs1]; exact St.u_lt _ _
  have hu2 := fun g w h => u_any g u1.2 4 w h
  have hl2 := St.u_lt u1.2 4
  generalize u1.2.u 4 = u2 at *
  clear hs1 hn
  have HU1 := Lib.hid hu1
  have HU2 := Lib.hid hu2
  clear hu1 hu2
  obtain ⟨x1, st1⟩ := u1
  obtain ⟨x2, l2, bad2⟩ := u2
  have hle := hr.le
  simp only at hl1 hl2 hbad
  subst hbad
  have hne : ((n : Int) == 0) = false := by simp; omega
  have hmin : (if (n : Int) < 8 then (n : Int) else 8) = (n : Int) := if_pos (by omega)
  have hmin2 : (if (8 : Int) < (n : Int) then 8 else (n : Int)) = (n : Int) := if_neg (by omega)
  go_enter Tryz.func111, Tryz.ntmps111
  go_wp2_with fail
  refine (new_any _ _ _ _ _ hr (by omega)).mono ?_
  rintro e w1 ⟨g, rfl, hg, hI1, hb1⟩
  go_wp2_with fail
  refine (HU1.out _ _ hI1).mono ?_
  rintro e w2 ⟨rfl, hI2, hG2⟩
  go_wp2_with fail
  refine (HU2.out _ _ hI2).mono ?_
  rintro e w3 ⟨rfl, hI3, hG3⟩
  go_wp2_with (go_at_call 107; refine (bad_any _ _ _ hI3).mono ?_; rintro e w4 ⟨rfl, rfl⟩)
  all_goals go_ret3
  all_goals exact ⟨rfl, chainG (chainG hb1 hG2 hg) hG3 hg⟩

theorem next_long_any (A : Option Addr) (n c : Nat) (b : List UInt8) (w : World) (hr : RdB w w.heap.size A n c b) (h8 : 8 ≤ n) (hn : n ≤ 1099511627776) :
    Calls Tryz.prog 111 #[.slice A n c] w fun e w' => ∃ A2 c2, e = .returned (.tuple #[.slice A2 (nextF b).2.1.length c2, .int .i64 ((nextF b).2.2 : Int), .int .i64 ((nextF b).1 : Int)]) ∧
      OwnB w' w.heap.size A2 (nextF b).2.1.length c2 (nextF b).2.1 ∧ Below w.heap.size w w' := by
  have hlen := hr.length
  have hle := hr.le
  have hmax := hr.max
  unfold maxLen at hmax
  have hu1 := fun g w h => u_any g ⟨b.take 8, false⟩ 4 w h
  rw [u4_first b (by omega)] at hu1
  have hu2 := fun g w h => u_any g ⟨(b.drop 4).take 4, false⟩ 4 w h
  rw [u4_second b (by omega)] at hu2
  obtain ⟨g0, off, rfl, _, _⟩ := hr.cells (by omega)
  have hr8 := hr.take (k := 8) h8 (c' := c) (by omega) (Nat.le_refl _)
  have hrd := hr.drop (k := 8) h8
  have hl1 := lenAt_lt b
  have hl2 := sumAt_lt b
  have HU1 := Lib.hid hu1
  have HU2 := Lib.hid hu2
  clear hu1 hu2
  have hne : ((n : Int) == 0) = false := by simp; omega
  have hmin : (if (n : Int) < 8 then (n : Int) else 8) = 8 := if_neg (by omega)
  have hmin2 : ¬ (n : Int) < 8 := by omega
  have hmin3 : (8 : Int) ≤ (n : Int) := by omega
  by_cases hf : lenAt b < 1 ∨ 1048576 < lenAt b
  · rw [next_form (by omega) hf]
    clear hlen hrd
    generalize lenAt b = x at *
    generalize sumAt b = y at *
    by_cases hx : x < 1
    · clear hf
      go_enter Tryz.func111, Tryz.ntmps111
      go_wp2_with fail
      refine (new_any _ _ _ _ _ hr8 (by omega)).mono ?_
      rintro e w1 ⟨g, rfl, hg, hI1, hb1⟩
      go_wp2_with fail
      refine (HU1.out _ _ hI1).mono ?_
      rintro e w2 ⟨rfl, hI2, hG2⟩
      go_wp2_with fail
      refine (HU2.out _ _ hI2).mono ?_
      rintro e w3 ⟨rfl, hI3, hG3⟩
      have hb3 := chainG (chainG hb1 hG2 hg) hG3 hg
      go_wp2_with (go_at_call 107; refine (bad_any _ _ _ hI3).mono ?_; rintro e w4 ⟨rfl, rfl⟩)
      all_goals go_ret3
      all_goals exact ⟨none, 0, rfl, OwnB.nil, hb3⟩
    · have hx2 : 1048576 < x := by omega
      clear hf
      go_enter Tryz.func111, Tryz.ntmps111
      go_wp2_with fail
      refine (new_any _ _ _ _ _ hr8 (by omega)).mono ?_
      rintro e w1 ⟨g, rfl, hg, hI1, hb1⟩
      go_wp2_with fail
      refine (HU1.out _ _ hI1).mono ?_
      rintro e w2 ⟨rfl, hI2, hG2⟩
      go_wp2_with fail
      refine (HU2.out _ _ hI2).mono ?_
      rintro e w3 ⟨rfl, hI3, hG3⟩
      have hb3 := chainG (chainG hb1 hG2 hg) hG3 hg
      go_wp2_with (go_at_call 107; refine (bad_any _ _ _ hI3).mono ?_; rintro e w4 ⟨rfl, rfl⟩)
      all_goals go_ret3
      all_goals exact ⟨none, 0, rfl, OwnB.nil, hb3⟩
  · have hf1 : 1 ≤ lenAt b := by omega
    have hf2 : lenAt b ≤ 1048576 := by omega
    by_cases hm : b.length - 8 < lenAt b
    · rw [next_more (by omega) hf hm]
      have hm' : n - 8 < lenAt b := by omega
      clear hlen hrd hm hf
      generalize lenAt b = x at *
      generalize sumAt b = y at *
      go_enter Tryz.func111, Tryz.ntmps111
      go_wp2_with fail
      refine (new_any _ _ _ _ _ hr8 (by omega)).mono ?_
      rintro e w1 ⟨g, rfl, hg, hI1, hb1⟩
      go_wp2_with fail
      refine (HU1.out _ _ hI1).mono ?_
      rintro e w2 ⟨rfl, hI2, hG2⟩
      go_wp2_with fail
      refine (HU2.out _ _ hI2).mono ?_
      rintro e w3 ⟨rfl, hI3, hG3⟩
      have hb3 := chainG (chainG hb1 hG2 hg) hG3 hg
      go_wp2_with (go_at_call 107; refine (bad_any _ _ _ hI3).mono ?_; rintro e w4 ⟨rfl, rfl⟩)
      all_goals go_ret3
      all_goals exact ⟨none, 0, rfl, OwnB.nil, hb3⟩
    · have hm' : lenAt b ≤ n - 8 := by omega
      have hc8 : ¬ c = 8 := by omega
      rw [if_neg hc8] at hrd
      simp only [Option.map_some, Addr.add, Nat.reduceEqDiff, if_false] at hrd
      have hrp := hrd.take (k := lenAt b) hm' (c' := c - 8) (by omega) (Nat.le_refl _)
      by_cases hs : ofN ((b.drop 8).take (lenAt b)) = sumAt b
      · rw [next_ok (by omega) hf hm hs]
        clear hf hm hlen
        generalize lenAt b = x at *
        generalize sumAt b = y at *
        generalize (b.drop 4).take 4 = b4 at *
        generalize (b.drop 8).take x = p at *
        obtain rfl : p.length = x := hrp.length
        have HSum := Lib.hid hs
        clear hs
        go_enter Tryz.func111, Tryz.ntmps111
        go_wp2_with fail
        refine (new_any _ _ _ _ _ hr8 (by omega)).mono ?_
        rintro e w1 ⟨g, rfl, hg, hI1, hb1⟩
        go_wp2_with fail
        refine (HU1.out _ _ hI1).mono ?_
        rintro e w2 ⟨rfl, hI2, hG2⟩
        go_wp2_with fail
        refine (HU2.out _ _ hI2).mono ?_
        rintro e w3 ⟨rfl, hI3, hG3⟩
        have hb3 := chainG (chainG hb1 hG2 hg) hG3 hg
        have hof := of_any _ _ _ _ _ w3 (hrp.below hb3)
        rw [HSum.out] at hof
        have HOF := Lib.hid hof
        clear hof
        go_wp2_with (first | (go_at_call 107; refine (bad_any _ _ _ hI3).mono ?_; rintro e w4 ⟨rfl, rfl⟩) | (go_at_call 121; refine HOF.out.mono ?_; rintro e w4 ⟨rfl, rfl⟩) | (go_at_call 45; refine (clone_any _ _ _ _ _ ((hrp.below hb3).more hb3.size) (by omega)).mono ?_; rintro e w5 ⟨A5, c5, rfl, hown5, hb5⟩) | (go_at_call 146; refine (size_ok p.length hf1 hf2 _).mono ?_; rintro e w6 ⟨rfl, rfl⟩))
        go_ret3
        exact ⟨A5, c5, by simp, hown5.lower hb3.size, chain hb3 hb5⟩
      · rw [next_sum (by omega) hf hm hs]
        clear hf hm hlen
        have hlo := of_lt ((b.drop 8).take (lenAt b))
        generalize sumAt b = y at *
        generalize (b.drop 4).take 4 = b4 at *
        have hof := fun w' h => of_any _ _ _ _ _ w' (hrp.below (w' := w') h)
        generalize ofN ((b.drop 8).take (lenAt b)) = z at *
        generalize lenAt b = x at *
        have hne2 : ((z : Int) != (y : Int)) = true := by simp; omega
        have HOF := Lib.hid hof
        clear hof hs
        go_enter Tryz.func111, Tryz.ntmps111
        go_wp2_with fail
        refine (new_any _ _ _ _ _ hr8 (by omega)).mono ?_
        rintro e w1 ⟨g, rfl, hg, hI1, hb1⟩
        go_wp2_with fail
        refine (HU1.out _ _ hI1).mono ?_
        rintro e w2 ⟨rfl, hI2, hG2⟩
        go_wp2_with fail
        refine (HU2.out _ _ hI2).mono ?_
        rintro e w3 ⟨rfl, hI3, hG3⟩
        have hb3 := chainG (chainG hb1 hG2 hg) hG3 hg
        go_wp2_with (first | (go_at_call 107; refine (bad_any _ _ _ hI3).mono ?_; rintro e w4 ⟨rfl, rfl⟩) | (go_at_call 121; refine (HOF.out _ hb3).mono ?_; rintro e w4 ⟨rfl, rfl⟩))
        go_ret3
        exact ⟨none, 0, rfl, OwnB.nil, hb3⟩

/-- Next, whatever the bytes -/
theorem next_any (A : Option Addr) (n c : Nat) (b : List UInt8) (w : World) (hr : RdB w w.heap.size A n c b) (hn : n ≤ 1099511627776) :
    Calls Tryz.prog 111 #[.slice A n c] w fun e w' => ∃ A2 c2, e = .returned (.tuple #[.slice A2 (nextF b).2.1.length c2, .int .i64 ((nextF b).2.2 : Int), .int .i64 ((nextF b).1 : Int)]) ∧
      OwnB w' w.heap.size A2 (nextF b).2.1.length c2 (nextF b).2.1 ∧ Below w.heap.size w w' := by
  have hlen := hr.length
  by_cases h0 : n = 0
  · subst h0
    obtain rfl := List.eq_nil_of_length_eq_zero hlen
    refine (next_nil A c w hr).mono ?_
    rintro e w' ⟨rfl, hb⟩
    exact ⟨none, 0, rfl, OwnB.nil, hb⟩
  by_cases h8 : n < 8
  · rw [next_short (by omega) (by omega)]
    refine (next_short_any A n c b w hr (by omega) h8).mono ?_
    rintro e w' ⟨rfl, hb⟩
    exact ⟨none, 0, rfl, OwnB.nil, hb⟩
  · exact next_long_any A n c b w hr (by omega) hn
end Go.Proofs.YtnkjekkdndjfaaaGreat
namespace Go.Proofs.YtnkjekkdndjfaaaGreat
set_option linter.unusedVariables false
set_option linter.unusedSimpArgs false
open Go.RowKit

theorem rput5 (A : Option Addr) (n c : Nat) (l : List UInt8) (w : World) (hr : RdB w w.heap.size A n c l) (h2 : n ≤ 1048576) :
    Calls Tryz.prog 94 #[.slice A n c] w fun e w' => ∃ A2 c2, e = .returned (.slice A2 (8 + n) c2) ∧ OwnB w' w.heap.size A2 (8 + n) c2 (frameL l) ∧ Below w.heap.size w w' := by
  obtain rfl : l.length = n := hr.length
  have hlt := of_lt l
  go_enter Tryz.func94, Tryz.ntmps94
  go_wp2_with fail
  have hb0 : Below w.heap.size w (w.alloc (.cells #[] 5)) := (Below.refl _ _).alloc (Nat.le_refl _) _
  have hown0 : OwnB (w.alloc (.cells #[] 5)) w.heap.size (some ⟨w.heap.size, 0, none⟩) 0 0 [] := OwnB.made (Nat.le_refl _)
  refine (ref_put l.length 4 _ (by omega) (by omega) (by omega)).mono ?_
  rintro e w1 ⟨A1, rfl, hown1, hb1⟩
  have hb1' := chain hb0 hb1
  have hown0' : OwnB w1 w.heap.size (some ⟨w.heap.size, 0, none⟩) 0 0 [] := hown0.below hb1
  go_wp2_with (at_builtin; refine app_u8 rfl (.tmp 4) (.tmp 8) rfl rfl hown0' rfl hown1.rd ?_ (by omega) hb1'.size; intro A2 c2 w2 hown2 hb2 _ _)
  have hb2' := hb1'.trans hb2
  simp only [Nat.zero_add, List.nil_append] at hown2
  refine (of_ref _ _ _ _ _ _ (hr.below hb2')).mono ?_
  rintro e w3 ⟨rfl, rfl⟩
  go_wp2_with fail
  refine (ref_put (ofN l) 4 _ (by omega) (by omega) (by omega)).mono ?_
  rintro e w3 ⟨A3, rfl, hown3, hb3⟩
  have hb3' := chain hb2' hb3
  have hown2' := hown2.below hb3
  go_wp2_with (first | (at_builtin; refine app_u8 rfl (.tmp 10) (.tmp 14) rfl rfl hown2' rfl hown3.rd ?_ (by omega) hb3'.size; intro A4 c4 w4 hown4 hb4 _ _; have hb4' := hb3'.trans hb4) | (at_builtin; refine app_u8 rfl (.tmp 16) (.tmp 17) rfl rfl hown4 rfl (hr.below hb4') ?_ (by omega) hb4'.size; intro A5 c5 w5 hown5 hb5 _ _))
  go_ret
  rw [List.append_assoc] at hown5
  exact ⟨A5, c5, by simp, hown5, hb4'.trans hb5⟩

theorem rnext_short (A : Option Addr) (n c k : Nat) (w : World) (hn : n ≤ 1099511627776) (hk : k ≤ n) (h8 : n < k + 8) :
    Calls Tryz.prog 126 #[.slice A n c, .int .i64 (k : Int)] w fun e w' => e = .returned (.tuple #[.slice none 0 0, .int .i64 (if n = k then 6 else 4)]) ∧ w = w' := by
  by_cases h0 : n = k
  · subst h0
    rw [if_pos rfl]
    go_enter Tryz.func126, Tryz.ntmps126
    go_wp2_with fail
    go_ret2
    exact ⟨rfl, rfl⟩
  · rw [if_neg h0]
    have hne : ((n : Int) - (k : Int) == 0) = false := by simp; omega
    clear h0
    go_enter Tryz.func126, Tryz.ntmps126
    go_wp2_with fail
    go_ret2
    exact ⟨rfl, rfl⟩

theorem rnext_long (g0 off : Nat) (n c B k : Nat) (b : List UInt8) (w : World) (hr : RdB w B (some ⟨g0, off, none⟩) n c b) (hn : n ≤ 1099511627776) (hk : k + 8 ≤ n) :
    Calls Tryz.prog 126 #[.slice (some ⟨g0, off, none⟩) n c, .int .i64 (k : Int)] w fun e w' => ∃ A2 c2, e = .returned (.tuple #[.slice A2 (nextF (b.drop k)).2.1.length c2, .int .i64 ((nextF (b.drop k)).1 : Int)]) ∧
      RdB w' B A2 (nextF (b.drop k)).2.1.length c2 (nextF (b.drop k)).2.1 ∧ w = w' := by
  have hlen := hr.length
  have hle := hr.le
  have hmax := hr.max
  unfold maxLen at hmax
  have hck : ¬ c = k := by omega
  have hck4 : ¬ c = k + 4 := by omega
  have hne : ((n : Int) - (k : Int) == 0) = false := by simp; omega
  have hdl : (b.drop k).length = n - k := by simp; omega
  have h1 := ref_num _ _ _ _ _ w (hr.cut (k := k) (m := 4) (by omega))
  have hq1 : num ((b.drop k).take 4) = lenAt (b.drop k) := rfl
  rw [hq1] at h1
  have h2 := ref_num _ _ _ _ _ w (hr.cut (k := k + 4) (m := 4) (by omega))
  have hq2 : num ((b.drop (k + 4)).take 4) = sumAt (b.drop k) := by unfold sumAt; rw [List.drop_drop]
  rw [hq2] at h2
  have hl1 := lenAt_lt (b.drop k)
  have hl2 := sumAt_lt (b.drop k)
  have H1 := Lib.hid h1
  have H2 := Lib.hid h2
  clear h1 h2 hq1 hq2
  by_cases hf : lenAt (b.drop k) < 1 ∨ 1048576 < lenAt (b.drop k)
  · rw [next_form (by omega) hf]
    clear hlen hdl
    generalize lenAt (b.drop k) = x at *
    by_cases hx : x < 1
    · obtain rfl : x = 0 := by omega
      clear hf
      go_enter Tryz.func126, Tryz.ntmps126
      go_wp2_with fail
      refine H1.out.mono ?_
      rintro e w1 ⟨rfl, rfl⟩
      go_wp2_with fail
      go_ret2
      exact ⟨none, 0, rfl, RdB.nil, rfl⟩
    · have hx2 : 1048576 < x := by omega
      have hx0 : ((x : Int) == 0) = false := by simp; omega
      clear hf
      go_enter Tryz.func126, Tryz.ntmps126
      go_wp2_with fail
      refine H1.out.mono ?_
      rintro e w1 ⟨rfl, rfl⟩
      go_wp2_with fail
      go_ret2
      exact ⟨none, 0, rfl, RdB.nil, rfl⟩
  · have hx0 : ((lenAt (b.drop k) : Int) == 0) = false := by simp; omega
    have hf2 : lenAt (b.drop k) ≤ 1048576 := by omega
    have hf1 : 1 ≤ lenAt (b.drop k) := by omega
    by_cases hm : (b.drop k).length - 8 < lenAt (b.drop k)
    · rw [next_more (by omega) hf hm]
      have hm' : (n : Int) - (k : Int) - 8 < (lenAt (b.drop k) : Int) := by omega
      clear hlen hdl hm hf
      generalize lenAt (b.drop k) = x at *
      go_enter Tryz.func126, Tryz.ntmps126
      go_wp2_with fail
      refine H1.out.mono ?_
      rintro e w1 ⟨rfl, rfl⟩
      go_wp2_with fail
      go_ret2
      exact ⟨none, 0, rfl, RdB.nil, rfl⟩
    · have hm' : ¬ (n : Int) - (k : Int) - 8 < (lenAt (b.drop k) : Int) := by omega
      have hm2 : k + 8 + lenAt (b.drop k) ≤ n := by omega
      have hck8 : ¬ c = k + 8 := by omega
      have hrp := hr.cut (k := k + 8) (m := lenAt (b.drop k)) hm2
      have hpe : (b.drop (k + 8)).take (lenAt (b.drop k)) = ((b.drop k).drop 8).take (lenAt (b.drop k)) := by rw [List.drop_drop]
      rw [hpe] at hrp
      clear hpe
      by_cases hs : ofN (((b.drop k).drop 8).take (lenAt (b.drop k))) = sumAt (b.drop k)
      · rw [next_ok (by omega) hf hm hs]
        clear hf hm hlen hdl
        generalize sumAt (b.drop k) = y at *
        generalize lenAt (b.drop k) = x at *
        generalize ((b.drop k).drop 8).take x = p at *
        obtain rfl : p.length = x := hrp.length
        have h3 := of_ref _ _ _ _ _ w hrp
        rw [hs] at h3
        have H3 := Lib.hid h3
        clear hs h3
        go_enter Tryz.func126, Tryz.ntmps126
        go_wp2_with fail
        refine H1.out.mono ?_
        rintro e w1 ⟨rfl, rfl⟩
        go_wp2_with fail
        refine H2.out.mono ?_
        rintro e w1 ⟨rfl, rfl⟩
        go_wp2_with fail
        refine H3.out.mono ?_
        rintro e w1 ⟨rfl, rfl⟩
        go_wp2_with fail
        go_ret2
        exact ⟨_, _, rfl, hrp, rfl⟩
      · rw [next_sum (by omega) hf hm hs]
        have hlo := of_lt (((b.drop k).drop 8).take (lenAt (b.drop k)))
        have h3 := of_ref _ _ _ _ _ w hrp
        have hpl := hrp.length
        clear hf hm hlen hdl
        generalize sumAt (b.drop k) = y at *
        generalize ofN (((b.drop k).drop 8).take (lenAt (b.drop k))) = z at *
        generalize lenAt (b.drop k) = x at *
        have hne2 : ((y : Int) != (z : Int)) = true := by simp; omega
        have H3 := Lib.hid h3
        clear hs h3 hpl
        go_enter Tryz.func126, Tryz.ntmps126
        go_wp2_with fail
        refine H1.out.mono ?_
        rintro e w1 ⟨rfl, rfl⟩
        go_wp2_with fail
        refine H2.out.mono ?_
        rintro e w1 ⟨rfl, rfl⟩
        go_wp2_with fail
        refine H3.out.mono ?_
        rintro e w1 ⟨rfl, rfl⟩
        go_wp2_with fail
        go_ret2
        exact ⟨none, 0, rfl, RdB.nil, rfl⟩

/-- the reference's Next, at any place -/
theorem rnext_any (A : Option Addr) (n c B k : Nat) (b : List UInt8) (w : World) (hr : RdB w B A n c b) (hn : n ≤ 1099511627776) (hk : k ≤ n) :
    Calls Tryz.prog 126 #[.slice A n c, .int .i64 (k : Int)] w fun e w' => ∃ A2 c2, e = .returned (.tuple #[.slice A2 (nextF (b.drop k)).2.1.length c2, .int .i64 ((nextF (b.drop k)).1 : Int)]) ∧
      RdB w' B A2 (nextF (b.drop k)).2.1.length c2 (nextF (b.drop k)).2.1 ∧ w = w' := by
  have hlen := hr.length
  by_cases h8 : n < k + 8
  · have hx := rnext_short A n c k w hn hk h8
    by_cases h0 : n = k
    · rw [if_pos h0] at hx
      rw [next_none (by simp; omega)]
      refine hx.mono ?_
      rintro e w' ⟨rfl, rfl⟩
      exact ⟨none, 0, rfl, RdB.nil, rfl⟩
    · rw [if_neg h0] at hx
      rw [next_short (by simp; omega) (by simp; omega)]
      refine hx.mono ?_
      rintro e w' ⟨rfl, rfl⟩
      exact ⟨none, 0, rfl, RdB.nil, rfl⟩
  · obtain ⟨g0, off, rfl, _, _⟩ := hr.cells (by have := hr.le; omega)
    exact rnext_long g0 off n c B k b w hr hn (by omega)
end Go.Proofs.YtnkjekkdndjfaaaGreat
namespace Go.Proofs.YtnkjekkdndjfaaaGreat
set_option linter.unusedVariables false
set_option linter.unusedSimpArgs false
open Go.RowKit

/-- a slice of bytes as an element -/
structure Bsl where
  A : Option Addr
  n : Nat
  c : Nat
  l : List UInt8
deriving Inhabited
def Bsl.val (y : Bsl) : Value := .slice y.A y.n y.c

/-- an element: bytes that were there when the call began, or bytes of the call's own -/
def EltB (w : World) (base : Nat) (y : Bsl) : Prop := RdB w base y.A y.n y.c y.l ∨ OwnB w base y.A y.n y.c y.l
theorem EltB.rd {w : World} {base : Nat} {y : Bsl} (h : EltB w base y) (hb : base ≤ w.heap.size) : RdB w w.heap.size y.A y.n y.c y.l := by
  rcases h with h | h
  · exact h.more hb
  · exact h.rd
theorem EltB.below {w w' : World} {base : Nat} {y : Bsl} (h : EltB w base y) (hb : Below w.heap.size w w') (hbw : base ≤ w.heap.size) : EltB w' base y := by
  rcases h with h | h
  · exact .inl (RdB.below h (hb.mono hbw))
  · exact .inr (h.below hb)
theorem EltB.lower {w : World} {base base' : Nat} {y : Bsl} (h : OwnB w base y.A y.n y.c y.l) (hb : base' ≤ base) : EltB w base' y := .inr (h.lower hb)

def OwnS (w : World) (base : Nat) (A : Option Addr) (n c : Nat) (ys : List Bsl) : Prop :=
  w.ownsRow base 22 1 (.slice A n c) n (ys.map Bsl.val) ∧ ∀ y ∈ ys, EltB w base y
/-- a readable one -/
def RdS (w : World) (B : Nat) (A : Option Addr) (n c : Nat) (ys : List Bsl) : Prop := Rd w B 1 A n c (ys.map Bsl.val) ∧ ∀ y ∈ ys, RdB w B y.A y.n y.c y.l

theorem OwnS.nil {w : World} {base : Nat} : OwnS w base none 0 0 [] := ⟨World.ownsRow_nil _ _ _ _, by simp⟩
theorem OwnS.length {w : World} {base n c : Nat} {A : Option Addr} {ys : List Bsl} (h : OwnS w base A n c ys) : ys.length = n := by
  have := h.1.1
  simp at this
  exact this
theorem OwnS.rd {w : World} {base n c : Nat} {A : Option Addr} {ys : List Bsl} (h : OwnS w base A n c ys) (hb : base ≤ w.heap.size) : RdS w w.heap.size A n c ys :=
  ⟨Rd.of_own h.1, fun y hy => (h.2 y hy).rd hb⟩
theorem OwnS.below {w w' : World} {base n c : Nat} {A : Option Addr} {ys : List Bsl} (h : OwnS w base A n c ys) (hb : Below w.heap.size w w') (hbw : base ≤ w.heap.size) : OwnS w' base A n c ys := by
  obtain ⟨⟨h1, h2⟩, h3⟩ := h
  refine ⟨⟨h1, ?_⟩, fun y hy => (h3 y hy).below hb hbw⟩
  rcases h2 with h2 | ⟨g, cap, cur, e1, e2, e3, e4⟩
  · exact .inl h2
  · exact .inr ⟨g, cap, cur, e1, e2, (hb.block g (Array.getElem?_eq_some_iff.1 e3).1).trans e3, e4⟩
theorem OwnS.lower {w : World} {base base' n c : Nat} {A : Option Addr} {ys : List Bsl} (h : OwnS w base A n c ys) (hb : base' ≤ base) (hy : ∀ y ∈ ys, EltB w base' y) : OwnS w base' A n c ys := by
  obtain ⟨⟨h1, h2⟩, h3⟩ := h
  refine ⟨⟨h1, ?_⟩, hy⟩
  rcases h2 with h2 | ⟨g, cap, cur, e1, e2, e3⟩
  · exact .inl h2
  · exact .inr ⟨g, cap, cur, e1, Nat.le_trans hb e2, e3⟩
theorem RdS.length {w : World} {B n c : Nat} {A : Option Addr} {ys : List Bsl} (h : RdS w B A n c ys) : ys.length = n := by
  have := h.1.len
  simp at this
  exact this
theorem RdS.below {w w' : World} {B n c : Nat} {A : Option Addr} {ys : List Bsl} (h : RdS w B A n c ys) (hb : Below B w w') : RdS w' B A n c ys := ⟨h.1.below hb, fun y hy => RdB.below (h.2 y hy) hb⟩
theorem RdS.more {w : World} {B B' n c : Nat} {A : Option Addr} {ys : List Bsl} (h : RdS w B A n c ys) (hB : B ≤ B') : RdS w B' A n c ys := ⟨h.1.more hB, fun y hy => RdB.more (h.2 y hy) hB⟩
theorem RdS.get {w : World} {B n c : Nat} {A : Option Addr} {ys : List Bsl} (h : RdS w B A n c ys) {k : Nat} (hk : k < ys.length) :
    ∃ g off, A = some ⟨g, off, none⟩ ∧ g < B ∧ w.cell? ⟨g, off + k, none⟩ = some (.slice ys[k].A ys[k].n ys[k].c) ∧ RdB w B ys[k].A ys[k].n ys[k].c ys[k].l := by
  obtain ⟨g, off, u, e, hg, hu, hcell⟩ := h.1.get (k := k) (by rw [← h.length]; exact hk)
  rw [List.getElem?_map, List.getElem?_eq_getElem hk] at hu
  simp only [Option.map_some] at hu
  injection hu with hu
  subst hu
  exact ⟨g, off, e, hg, hcell, h.2 _ (List.getElem_mem hk)⟩

theorem Rd.one {w : World} {t : TypeId} {v : Value} : Rd (w.alloc (.cells #[v] t)) (w.heap.size + 1) 1 (some ⟨w.heap.size, 0, none⟩) 1 1 [v] := by
  refine ⟨rfl, Nat.le_refl _, by simp [maxLen], fun _ => ⟨_, 0, rfl, by omega, fun j u hu => ?_⟩⟩
  rcases j with _ | j
  · simp at hu
    subst hu
    unfold World.cell?
    rw [heap_alloc_new]
    rfl
  · simp at hu

theorem info_sl : (Tryz.prog.info? 22).map (fun i => (i.zero, i.size, i.bytes)) = some (some (.slice none 0 0), 1, 24) := by kernel_rfl

/-- append of one slice of bytes -/
theorem app_s {ops : Array Oper} {rest : List Oper} {o : Oper} {a : Act} {w : World} {Q : Exit → Act → World → Prop} (hgd : o.guard = none) (s x : Operand)
    (ho : o.op = .call { callee := .builtin .append, args := #[s, x], argTypes := #[102, 102] })
    {base : Nat} {A' : Option Addr} {n c' : Nat} {ys : List Bsl} (hs : a.eval s = .slice A' n c') (hown : OwnS w base A' n c' ys)
    {B : Nat} {A : Option Addr} {c : Nat} (y : Bsl) (hx : a.eval x = .slice A 1 c) (hr : Rd w B 1 A 1 c [y.val]) (hy : EltB w base y)
    (h : ∀ A2 c2 w', OwnS w' base A2 (n + 1) c2 (ys ++ [y]) → Below base w w' → w.grownBy w' (Value.slice A' n c').ownBlock → wpList Tryz.prog ops Q rest (a.put o.dst (.slice A2 (n + 1) c2)) w')
    (hsz : n + 1 ≤ 1099511627776) (hbase : base ≤ w.heap.size) : wpList Tryz.prog ops Q (o :: rest) a w := by
  obtain ⟨i0, hi0, hz0, hz1, hz2⟩ := info_parts info_sl
  refine wpList_app w hgd s x _ ho base 22 i0 _ 1 24 Tryz.underlying102 hi0 hz0 hz1 hz2 rfl (by omega) A' n c' (ys.map Bsl.val) hs hown.1 B A 1 c [y.val] hx hr (by intro u hu; simp at hu; subst hu; rfl) ?_ (by omega) (by simp only [maxLen]; omega) hbase
  intro A2 c2 w' h1 h2 h3 _
  have hb := below_of_app hown.1 h2 hbase
  have hel : ∀ z, EltB w base z → EltB w' base z := by
    intro z hz
    rcases hz with hz | hz
    · exact .inl (RdB.below hz hb)
    · refine .inr (World.ownsRow.kept hz h2 ?_)
      rcases hz.2 with ⟨e, _⟩ | ⟨g, cap, cur, e1, e2, e3, _⟩
      · rw [e]; exact .inl rfl
      · rw [e1]
        refine .inr ?_
        rcases hown.1.2 with ⟨e, _⟩ | ⟨g', cap', cur', f1, f2, f3, _⟩
        · rw [e]; simp [Value.ownBlock]
        · rw [f1]
          simp only [Value.ownBlock]
          intro e
          injection e with e
          subst e
          rw [e3] at f3
          injection f3 with f3
          injection f3 with _ ft
          exact absurd ft (by decide)
  refine h A2 c2 w' ⟨by simpa using h1, fun z hz => ?_⟩ hb h2
  rw [List.mem_append] at hz
  rcases hz with hz | hz
  · exact hel z (hown.2 z hz)
  · simp at hz
    subst hz
    exact hel z hy
end Go.Proofs.YtnkjekkdndjfaaaGreat
namespace Go.Proofs.YtnkjekkdndjfaaaGreat
set_option linter.unusedVariables false
set_option linter.unusedSimpArgs false
open Go.RowKit

set_option maxHeartbeats 1000000 in
theorem fall_any (A : Option Addr) (n c : Nat) (b : List UInt8) (w : World) (hr : RdB w w.heap.size A n c b) (hn : n ≤ 1048576) :
    Calls Tryz.prog 61 #[.slice A n c] w fun e w' => ∃ (A2 : Option Addr) (c2 : Nat) (ys : List Bsl) (k code : Nat), e = .returned (.tuple #[.slice A2 ys.length c2, .int .i64 (k : Int), .int .i64 (code : Int)]) ∧
      AllR b (ys.map Bsl.l) k code ∧ OwnS w' w.heap.size A2 ys.length c2 ys ∧ Below w.heap.size w w' := by
  have hlen := hr.length
  have hle := hr.le
  have hmax := hr.max
  unfold maxLen at hmax
  go_enter Tryz.func61, Tryz.ntmps61
  go_wp2_with fail
  go_loopw [5, 6] (fun v i wr => ∃ (ys : List Bsl) (k : Nat) (A2 : Option Addr) (c2 m : Nat), v = .slice A2 m c2 ∧ i = .int .i64 (k : Int) ∧ k ≤ n ∧ Got b (ys.map Bsl.l) k ∧ OwnS wr w.heap.size A2 m c2 ys ∧ Below w.heap.size w wr ∧ m ≤ k) (fun _ i _ => n - (intOf i).toNat)
  case atStart => exact ⟨[], 0, none, 0, 0, rfl, rfl, Nat.zero_le _, Got.nil b, OwnS.nil, Below.refl _ _, Nat.le_refl _⟩
  case round =>
    obtain ⟨ys, k, A2, c2, m, rfl, rfl, hk, hgot, hown, hbr, hmk⟩ := hrel
    have HG := Lib.hid hgot
    clear hgot
    obtain ⟨A3, c3, hval, hr3⟩ : ∃ A3 c3, (if c = k then Value.slice A 0 0 else Value.slice (A.map (·.add k)) (n - k) (c - k)) = .slice A3 (n - k) c3 ∧ RdB wr wr.heap.size A3 (n - k) c3 (b.drop k) := by
      have hd := (RdB.drop hr (k := k) hk).below hbr |>.more hbr.size
      by_cases hck : c = k
      · rw [if_pos hck] at hd ⊢
        rw [show n - k = 0 from by omega, show c - k = 0 from by omega] at *
        exact ⟨A, 0, rfl, hd⟩
      · rw [if_neg hck] at hd ⊢
        exact ⟨_, _, rfl, hd⟩
    have hnx := next_any A3 (n - k) c3 _ wr hr3 (by omega)
    have hz := next_zero (b.drop k)
    have hle2 := next_le (b.drop k)
    have hst := HG.out.stop (e := (nextF (b.drop k)).1) rfl
    have hsp := fun p m h => HG.out.step (p := p) (n := m) h
    have hdl : (b.drop k).length = n - k := by simp; omega
    rw [hdl] at hle2
    generalize nextF (b.drop k) = r at *
    obtain ⟨code, p, sz⟩ := r
    simp only at hnx hz hle2 hst
    have HN := Lib.hid hnx
    have HS := Lib.hid hst
    have HP := Lib.hid hsp
    clear hnx hst hsp hdl hlen
    by_cases hck : c = k
    · rw [if_pos hck] at hval
      injection hval with v1 v2 v3
      subst v1
      subst v3
      obtain rfl : n = k := by omega
      obtain rfl : n = c := by omega
      have hcode : code ≠ 0 := by
        intro h
        have := hz h
        omega
      have hN := HN.out
      rw [Nat.sub_self] at hN hr3 hle2
      have HN := Lib.hid hN
      clear hN hz hck v2
      have hne : ((code : Int) != 0) = true := by simp; omega
      have hfin := HS.out hcode
      have HF := Lib.hid hfin
      clear hfin hcode
      go_wp2_with fail
      refine HN.out.mono ?_
      rintro e w1 ⟨A4, c4, rfl, hown4, hb4⟩
      go_wp2_with fail
      go_ret3
      obtain rfl : ys.length = m := hown.length
      exact ⟨A2, c2, ys, _, code, rfl, HF.out, hown.below hb4 hbr.size, chain hbr hb4⟩
    · rw [if_neg hck] at hval
      injection hval with v1 v2 v3
      subst v1
      subst v3
      by_cases hc0 : code = 0
      · subst hc0
        obtain ⟨hz1, hz2⟩ := hz rfl
        go_wp2_with fail
        refine HN.out.mono ?_
        rintro e w1 ⟨A4, c4, rfl, hown4, hb4⟩
        have hb4' := chain hbr hb4
        have hown' : OwnS (w1.alloc (.cells #[.slice A4 p.length c4] 22)) w.heap.size A2 m c2 ys := (hown.below hb4 hbr.size).below ((Below.refl _ _).alloc (Nat.le_refl _) _) hb4'.size
        have helt : EltB (w1.alloc (.cells #[.slice A4 p.length c4] 22)) w.heap.size ⟨A4, p.length, c4, p⟩ := .inr ((hown4.lower hbr.size).alloc _)
        go_wp2_with (at_builtin; refine app_s rfl (.tmp 23) (.tmp 25) rfl rfl hown' ⟨A4, p.length, c4, p⟩ rfl Rd.one helt ?_ (by omega) (by have := hb4'.size; simp; omega); intro A5 c5 w5 hown5 hb5 _)
        go_roundw
        case rel =>
          refine ⟨ys ++ [⟨A4, p.length, c4, p⟩], k + sz, A5, c5, m + 1, rfl, by simp, by omega, ?_, hown5, (hb4'.alloc hb4'.size _).trans hb5, by omega⟩
          rw [List.map_append]
          exact HP.out p sz rfl
        case measure => simp [intOf]; omega
      · have hne : ((code : Int) != 0) = true := by simp; omega
        have hfin := HS.out hc0
        have HF := Lib.hid hfin
        clear hfin hc0
        go_wp2_with fail
        refine HN.out.mono ?_
        rintro e w1 ⟨A4, c4, rfl, hown4, hb4⟩
        go_wp2_with fail
        go_ret3
        obtain rfl : ys.length = m := hown.length
        exact ⟨A2, c2, ys, k, code, rfl, HF.out, hown.below hb4 hbr.size, chain hbr hb4⟩

set_option maxHeartbeats 1000000 in
theorem rall_any (A : Option Addr) (n c : Nat) (b : List UInt8) (w : World) (hr : RdB w w.heap.size A n c b) (hn : n ≤ 1048576) :
    Calls Tryz.prog 90 #[.slice A n c] w fun e w' => ∃ (A2 : Option Addr) (c2 : Nat) (ys : List Bsl) (k code : Nat), e = .returned (.tuple #[.slice A2 ys.length c2, .int .i64 (k : Int), .int .i64 (code : Int)]) ∧
      AllR b (ys.map Bsl.l) k code ∧ OwnS w' w.heap.size A2 ys.length c2 ys ∧ Below w.heap.size w w' := by
  have hlen := hr.length
  have hle := hr.le
  have hmax := hr.max
  unfold maxLen at hmax
  go_enter Tryz.func90, Tryz.ntmps90
  go_wp2_with fail
  go_loopw [5, 6] (fun v i wr => ∃ (ys : List Bsl) (k : Nat) (A2 : Option Addr) (c2 m : Nat), v = .slice A2 m c2 ∧ i = .int .i64 (k : Int) ∧ k ≤ n ∧ Got b (ys.map Bsl.l) k ∧ OwnS wr w.heap.size A2 m c2 ys ∧ Below w.heap.size w wr ∧ m ≤ k) (fun _ i _ => n - (intOf i).toNat)
  case atStart => exact ⟨[], 0, none, 0, 0, rfl, rfl, Nat.zero_le _, Got.nil b, OwnS.nil, Below.refl _ _, Nat.le_refl _⟩
  case round =>
    obtain ⟨ys, k, A2, c2, m, rfl, rfl, hk, hgot, hown, hbr, hmk⟩ := hrel
    have HG := Lib.hid hgot
    clear hgot
    have hnx := rnext_any A n c _ k b wr (hr.below hbr) (by omega) hk
    have hz := next_zero (b.drop k)
    have hle2 := next_le (b.drop k)
    have hst := HG.out.stop (e := (nextF (b.drop k)).1) rfl
    have hsp := fun p m h => HG.out.step (p := p) (n := m) h
    have hdl : (b.drop k).length = n - k := by simp; omega
    rw [hdl] at hle2
    generalize nextF (b.drop k) = r at *
    obtain ⟨code, p, sz⟩ := r
    simp only at hnx hz hle2 hst
    have HN := Lib.hid hnx
    have HS := Lib.hid hst
    have HP := Lib.hid hsp
    clear hnx hst hsp hdl hlen
    by_cases hc0 : code = 0
    · subst hc0
      obtain ⟨hz1, hz2⟩ := hz rfl
      clear hz
      have HZ := Lib.hid hz2
      have hz3 : 8 + p.length ≤ n - k := by omega
      have hz4 : p.length + 8 ≤ sz := by omega
      clear hz2
      go_wp2_with fail
      refine HN.out.mono ?_
      rintro e w1 ⟨A4, c4, rfl, hr4, rfl⟩
      have hown' : OwnS (wr.alloc (.cells #[.slice A4 p.length c4] 22)) w.heap.size A2 m c2 ys := hown.below ((Below.refl _ _).alloc (Nat.le_refl _) _) hbr.size
      have helt : EltB (wr.alloc (.cells #[.slice A4 p.length c4] 22)) w.heap.size ⟨A4, p.length, c4, p⟩ := .inl (RdB.alloc hr4 hbr.size _)
      go_wp2_with (at_builtin; refine app_s rfl (.tmp 20) (.tmp 22) rfl rfl hown' ⟨A4, p.length, c4, p⟩ rfl Rd.one helt ?_ (by omega) (by have := hbr.size; simp; omega); intro A5 c5 w5 hown5 hb5 _)
      go_roundw
      case rel =>
        have hzz := HZ.out
        refine ⟨ys ++ [⟨A4, p.length, c4, p⟩], k + sz, A5, c5, m + 1, rfl, ?_, by omega, ?_, hown5, (hbr.alloc hbr.size _).trans hb5, by omega⟩
        · rw [← hzz]
          simp
          omega
        · rw [List.map_append]
          exact HP.out p sz rfl
      case measure => simp [intOf]; omega
    · have hne : ((code : Int) != 0) = true := by simp; omega
      have hfin := HS.out hc0
      have HF := Lib.hid hfin
      clear hfin hc0
      go_wp2_with fail
      refine HN.out.mono ?_
      rintro e w1 ⟨A4, c4, rfl, hr4, rfl⟩
      go_wp2_with fail
      go_ret3
      obtain rfl : ys.length = m := hown.length
      exact ⟨A2, c2, ys, k, code, rfl, HF.out, hown, hbr⟩

end Go.Proofs.YtnkjekkdndjfaaaGreat
namespace Go.Proofs.YtnkjekkdndjfaaaGreat
set_option linter.unusedVariables false
set_option linter.unusedSimpArgs false
open Go.RowKit
set_option maxHeartbeats 1000000 in
theorem fall_own (A : Option Addr) (n c : Nat) (b : List UInt8) (w : World) (hr : RdB w w.heap.size A n c b) (hn : n ≤ 1048576) :
    Calls Tryz.prog 61 #[.slice A n c] w fun e w' => ∃ (A2 : Option Addr) (c2 : Nat) (ys : List Bsl) (k code : Nat), e = .returned (.tuple #[.slice A2 ys.length c2, .int .i64 (k : Int), .int .i64 (code : Int)]) ∧
      AllR b (ys.map Bsl.l) k code ∧ OwnS w' w.heap.size A2 ys.length c2 ys ∧ Below w.heap.size w w' ∧ (∀ y ∈ ys, OwnB w' w.heap.size y.A y.n y.c y.l) := by
  have hlen := hr.length
  have hle := hr.le
  have hmax := hr.max
  unfold maxLen at hmax
  go_enter Tryz.func61, Tryz.ntmps61
  go_wp2_with fail
  go_loopw [5, 6] (fun v i wr => ∃ (ys : List Bsl) (k : Nat) (A2 : Option Addr) (c2 m : Nat), v = .slice A2 m c2 ∧ i = .int .i64 (k : Int) ∧ k ≤ n ∧ Got b (ys.map Bsl.l) k ∧ OwnS wr w.heap.size A2 m c2 ys ∧ Below w.heap.size w wr ∧ m ≤ k ∧ (∀ y ∈ ys, OwnB wr w.heap.size y.A y.n y.c y.l)) (fun _ i _ => n - (intOf i).toNat)
  case atStart => exact ⟨[], 0, none, 0, 0, rfl, rfl, Nat.zero_le _, Got.nil b, OwnS.nil, Below.refl _ _, Nat.le_refl _, by simp⟩
  case round =>
    obtain ⟨ys, k, A2, c2, m, rfl, rfl, hk, hgot, hown, hbr, hmk, hel⟩ := hrel
    have HEL := Lib.hid hel
    clear hel
    have HG := Lib.hid hgot
    clear hgot
    obtain ⟨A3, c3, hval, hr3⟩ : ∃ A3 c3, (if c = k then Value.slice A 0 0 else Value.slice (A.map (·.add k)) (n - k) (c - k)) = .slice A3 (n - k) c3 ∧ RdB wr wr.heap.size A3 (n - k) c3 (b.drop k) := by
      have hd := (RdB.drop hr (k := k) hk).below hbr |>.more hbr.size
      by_cases hck : c = k
      · rw [if_pos hck] at hd ⊢
        rw [show n - k = 0 from by omega, show c - k = 0 from by omega] at *
        exact ⟨A, 0, rfl, hd⟩
      · rw [if_neg hck] at hd ⊢
        exact ⟨_, _, rfl, hd⟩
    have hnx := next_any A3 (n - k) c3 _ wr hr3 (by omega)
    have hz := next_zero (b.drop k)
    have hle2 := next_le (b.drop k)
    have hst := HG.out.stop (e := (nextF (b.drop k)).1) rfl
    have hsp := fun p m h => HG.out.step (p := p) (n := m) h
    have hdl : (b.drop k).length = n - k := by simp; omega
    rw [hdl] at hle2
    generalize nextF (b.drop k) = r at *
    obtain ⟨code, p, sz⟩ := r
    simp only at hnx hz hle2 hst
    have HN := Lib.hid hnx
    have HS := Lib.hid hst
    have HP := Lib.hid hsp
    clear hnx hst hsp hdl hlen
    by_cases hck : c = k
    · rw [if_pos hck] at hval
      injection hval with v1 v2 v3
      subst v1
      subst v3
      obtain rfl : n = k := by omega
      obtain rfl : n = c := by omega
      have hcode : code ≠ 0 := by
        intro h
        have := hz h
        omega
      have hN := HN.out
      rw [Nat.sub_self] at hN hr3 hle2
      have HN := Lib.hid hN
      clear hN hz hck v2
      have hne : ((code : Int) != 0) = true := by simp; omega
      have hfin := HS.out hcode
      have HF := Lib.hid hfin
      clear hfin hcode
      go_wp2_with fail
      refine HN.out.mono ?_
      rintro e w1 ⟨A4, c4, rfl, hown4, hb4⟩
      go_wp2_with fail
      go_ret3
      obtain rfl : ys.length = m := hown.length
      exact ⟨A2, c2, ys, _, code, rfl, HF.out, hown.below hb4 hbr.size, chain hbr hb4, fun y hy => (HEL.out y hy).below hb4⟩
    · rw [if_neg hck] at hval
      injection hval with v1 v2 v3
      subst v1
      subst v3
      by_cases hc0 : code = 0
      · subst hc0
        obtain ⟨hz1, hz2⟩ := hz rfl
        go_wp2_with fail
        refine HN.out.mono ?_
        rintro e w1 ⟨A4, c4, rfl, hown4, hb4⟩
        have hb4' := chain hbr hb4
        have hown' : OwnS (w1.alloc (.cells #[.slice A4 p.length c4] 22)) w.heap.size A2 m c2 ys := (hown.below hb4 hbr.size).below ((Below.refl _ _).alloc (Nat.le_refl _) _) hb4'.size
        have helt : EltB (w1.alloc (.cells #[.slice A4 p.length c4] 22)) w.heap.size ⟨A4, p.length, c4, p⟩ := .inr ((hown4.lower hbr.size).alloc _)
        go_wp2_with (at_builtin; refine app_s rfl (.tmp 23) (.tmp 25) rfl rfl hown' ⟨A4, p.length, c4, p⟩ rfl Rd.one helt ?_ (by omega) (by have := hb4'.size; simp; omega); intro A5 c5 w5 hown5 hb5 hG5)
        go_roundw
        case rel =>
          refine ⟨ys ++ [⟨A4, p.length, c4, p⟩], k + sz, A5, c5, m + 1, rfl, by simp, by omega, ?_, hown5, (hb4'.alloc hb4'.size _).trans hb5, by omega, fun y hy => ?_⟩
          rotate_left
          · rcases List.mem_append.1 hy with hy | hy
            · exact own_mod (show World.ownsRow _ _ _ _ _ _ _ from ((HEL.out y hy).below hb4).alloc _) (grown_mod hG5) (fun i o ho _ hit e => absurd (isT_uniq (own_isT hown'.1 e ho).2 hit) (by decide))
            · simp only [List.mem_singleton] at hy
              subst hy
              exact own_mod (show World.ownsRow _ _ _ _ _ _ _ from (hown4.lower hbr.size).alloc _) (grown_mod hG5) (fun i o ho _ hit e => absurd (isT_uniq (own_isT hown'.1 e ho).2 hit) (by decide))
          rw [List.map_append]
          exact HP.out p sz rfl
        case measure => simp [intOf]; omega
      · have hne : ((code : Int) != 0) = true := by simp; omega
        have hfin := HS.out hc0
        have HF := Lib.hid hfin
        clear hfin hc0
        go_wp2_with fail
        refine HN.out.mono ?_
        rintro e w1 ⟨A4, c4, rfl, hown4, hb4⟩
        go_wp2_with fail
        go_ret3
        obtain rfl : ys.length = m := hown.length
        exact ⟨A2, c2, ys, k, code, rfl, HF.out, hown.below hb4 hbr.size, chain hbr hb4, fun y hy => (HEL.out y hy).below hb4⟩

end Go.Proofs.YtnkjekkdndjfaaaGreat
