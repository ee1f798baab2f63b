
/- Records one behind the other, as plain functions on bytes. No program is named here. -/
import Derived.Test.YtmoijbknjadeeaaBase
import Derived.Test.YtmoijbknjadeeaaSumPure
namespace Go.Proofs.Ytmoijbknjadeeaa
set_option linter.unusedVariables false
set_option linter.unusedSimpArgs false

/-- a record's frame -/
def frameL (p : List UInt8) : List UInt8 := putN p.length 4 ++ (putN (ofN p) 4 ++ p)
theorem frameL_length (p : List UInt8) : (frameL p).length = 8 + p.length := by
  simp only [frameL, List.length_append, putN_length]
  omega

/-- the number at the beginning, and behind it -/
def lenAt (b : List UInt8) : Nat := num (b.take 4)
def sumAt (b : List UInt8) : Nat := num ((b.drop 4).take 4)
/-- the record at the beginning: a code (0: there is one), its bytes, how many bytes its frame has -/
def nextF (b : List UInt8) : Nat × List UInt8 × Nat :=
  if b.length = 0 then (6, [], 0)
  else if b.length < 8 then (4, [], 0)
  else if lenAt b < 1 ∨ 1048576 < lenAt b then (3, [], 0)
  else if b.length - 8 < lenAt b then (4, [], 0)
  else if ofN ((b.drop 8).take (lenAt b)) ≠ sumAt b then (5, [], 0)
  else (0, (b.drop 8).take (lenAt b), lenAt b + 8)

theorem num_lt_pow : ∀ (l : List UInt8), l.length ≤ 7 → num l < 256 ^ l.length := by
  intro l
  induction hn : l.length generalizing l with
  | zero =>
    intro _
    have : l = [] := List.eq_nil_of_length_eq_zero hn
    subst this
    simp [num]
  | succ k ih =>
    intro hk
    rcases List.eq_nil_or_concat l with rfl | ⟨l', c, rfl⟩
    · simp at hn
    · rw [List.concat_eq_append] at hn ⊢
      have hl : l'.length = k := by simpa using hn
      have h1 := ih l' hl (by omega)
      have hc := c.toNat_lt
      rw [num_snoc]
      have h2 : num l' * 256 + c.toNat < 256 ^ (k + 1) := by rw [Nat.pow_succ]; omega
      exact Nat.lt_of_le_of_lt (Nat.mod_le _ _) h2
theorem lenAt_lt (b : List UInt8) : lenAt b < 4294967296 := by
  unfold lenAt
  have h := num_lt_pow (b.take 4) (by simp; omega)
  have : 256 ^ (b.take 4).length ≤ 256 ^ 4 := Nat.pow_le_pow_right (by omega) (by simp; omega)
  omega
theorem sumAt_lt (b : List UInt8) : sumAt b < 4294967296 := by
  unfold sumAt
  have h := num_lt_pow ((b.drop 4).take 4) (by simp; omega)
  have : 256 ^ ((b.drop 4).take 4).length ≤ 256 ^ 4 := Nat.pow_le_pow_right (by omega) (by simp; omega)
  omega

/-- a number as bytes is that number -/
theorem num_put : ∀ (k x : Nat), k ≤ 8 → x < 256 ^ k → num (putN x k) = x := by
  intro k
  induction k with
  | zero => intro x _ hx; simp at hx; subst hx; rfl
  | succ k ih =>
    intro x hk hx
    rw [Nat.pow_succ] at hx
    rw [putN, num_snoc, ih (x / 256) (by omega) (by omega), UInt8.toNat_ofNat']
    have hp : 256 ^ (k + 1) ≤ 256 ^ 8 := Nat.pow_le_pow_right (by omega) hk
    rw [Nat.pow_succ] at hp
    have h1 : x / 256 * 256 + x % 2 ^ 8 = x := by omega
    rw [h1]
    exact Nat.mod_eq_of_lt (by omega)

theorem lenAt_frame (p r : List UInt8) (hp : p.length ≤ 1048576) : lenAt (frameL p ++ r) = p.length := by
  unfold lenAt frameL
  rw [List.append_assoc, List.take_left' (putN_length _ _)]
  exact num_put 4 _ (by omega) (by omega)
theorem sumAt_frame (p r : List UInt8) : sumAt (frameL p ++ r) = ofN p := by
  unfold sumAt frameL
  rw [List.append_assoc, List.drop_left' (putN_length _ _), List.append_assoc, List.take_left' (putN_length _ _)]
  exact num_put 4 _ (by omega) (of_lt p)
theorem drop8_frame (p r : List UInt8) : (frameL p ++ r).drop 8 = p ++ r := by
  unfold frameL
  rw [← List.append_assoc (putN p.length 4), List.append_assoc (putN p.length 4 ++ putN (ofN p) 4), List.drop_left' (by simp [putN_length])]
/-- a frame is read as its record, whatever stands behind -/
theorem next_frame (p r : List UInt8) (h1 : 1 ≤ p.length) (h2 : p.length ≤ 1048576) : nextF (frameL p ++ r) = (0, p, p.length + 8) := by
  have hl : (frameL p ++ r).length = 8 + p.length + r.length := by rw [List.length_append, frameL_length]
  unfold nextF
  rw [lenAt_frame p r h2, sumAt_frame, drop8_frame, List.take_left, if_neg (by omega), if_neg (by omega), if_neg (by omega), if_neg (by omega), if_neg (by simp)]

theorem next_code (b : List UInt8) : (nextF b).1 ≠ 0 → nextF b = ((nextF b).1, [], 0) := by
  unfold nextF
  repeat' split
  all_goals simp
theorem next_le (b : List UInt8) : (nextF b).2.2 ≤ b.length := by
  unfold nextF
  repeat' split
  all_goals simp
  omega
theorem next_zero (b : List UInt8) (h : (nextF b).1 = 0) : 8 < (nextF b).2.2 ∧ (nextF b).2.1.length + 8 = (nextF b).2.2 := by
  revert h
  unfold nextF
  repeat' split
  all_goals simp
  omega

/-- all records of bytes, where they end, and why -/
inductive AllR : List UInt8 → List (List UInt8) → Nat → Nat → Prop
  | stop (b : List UInt8) (e : Nat) (h : (nextF b).1 = e) (he : e ≠ 0) : AllR b [] 0 e
  | step (b p : List UInt8) (n : Nat) (rs : List (List UInt8)) (a e : Nat) (h : nextF b = (0, p, n)) (hr : AllR (b.drop n) rs a e) : AllR b (p :: rs) (n + a) e
theorem AllR.det {b : List UInt8} {rs : List (List UInt8)} {a e : Nat} (h : AllR b rs a e) : ∀ {rs' : List (List UInt8)} {a' e' : Nat}, AllR b rs' a' e' → rs = rs' ∧ a = a' ∧ e = e' := by
  induction h with
  | stop b e h he =>
    intro rs' a' e' h'
    cases h' with
    | stop _ _ h2 he2 => exact ⟨rfl, rfl, h.symm.trans h2⟩
    | step _ p n rs a _ h2 hr => rw [h2] at h; exact absurd h.symm he
  | step b p n rs a e h hr ih =>
    intro rs' a' e' h'
    cases h' with
    | stop _ _ h2 he2 => rw [h] at h2; exact absurd h2.symm he2
    | step _ p2 n2 rs2 a2 _ h2 hr2 =>
      rw [h] at h2
      simp only [Prod.mk.injEq, true_and] at h2
      obtain ⟨rfl, rfl⟩ := h2
      obtain ⟨rfl, rfl, rfl⟩ := ih hr2
      exact ⟨rfl, rfl, rfl⟩

/-- so many were got, up to a place -/
def Got (b : List UInt8) (ys : List (List UInt8)) (at_ : Nat) : Prop := at_ ≤ b.length ∧ ∀ rs a e, AllR (b.drop at_) rs a e → AllR b (ys ++ rs) (at_ + a) e
theorem Got.nil (b : List UInt8) : Got b [] 0 := ⟨Nat.zero_le _, fun rs a e h => by simpa using h⟩
theorem Got.step {b : List UInt8} {ys : List (List UInt8)} {at_ : Nat} (h : Got b ys at_) {p : List UInt8} {n : Nat} (hn : nextF (b.drop at_) = (0, p, n)) : Got b (ys ++ [p]) (at_ + n) := by
  refine ⟨?_, fun rs a e hr => ?_⟩
  · have := next_le (b.drop at_)
    rw [hn] at this
    have h1 := h.1
    simp at this
    omega
  · have := h.2 _ _ _ (AllR.step _ _ _ _ _ _ hn (by rw [List.drop_drop]; exact hr))
    rw [List.append_assoc, Nat.add_assoc]
    exact this
theorem Got.stop {b : List UInt8} {ys : List (List UInt8)} {at_ e : Nat} (h : Got b ys at_) (he : (nextF (b.drop at_)).1 = e) (he0 : e ≠ 0) : AllR b ys at_ e := by
  have := h.2 _ _ _ (AllR.stop _ _ he he0)
  simpa using this

/-- frames one behind the other -/
def framesL (ws : List (List UInt8)) : List UInt8 := ws.flatMap frameL
theorem all_frames (ws : List (List UInt8)) (h : ∀ p ∈ ws, 1 ≤ p.length ∧ p.length ≤ 1048576) : AllR (framesL ws) ws (framesL ws).length 6 := by
  induction ws with
  | nil => exact AllR.stop _ _ rfl (by omega)
  | cons p ws ih =>
    have hp := h p (by simp)
    have e1 : framesL (p :: ws) = frameL p ++ framesL ws := rfl
    have hd : (frameL p ++ framesL ws).drop (p.length + 8) = framesL ws := List.drop_left' (by rw [frameL_length]; omega)
    have := AllR.step _ _ _ _ _ _ (next_frame p (framesL ws) hp.1 hp.2) (by rw [hd]; exact ih fun q hq => h q (by simp [hq]))
    rw [e1, List.length_append, frameL_length, Nat.add_comm 8]
    exact this

theorem u4_full (l r : List UInt8) (h : l.length = 4) : (⟨l ++ r, false⟩ : St).u 4 = (num l, ⟨r, false⟩) := by
  unfold St.u
  rw [if_neg (by omega)]
  have := St.bytes_front l r
  rw [h] at this
  rw [show (4 : Int) = ((4 : Nat) : Int) from rfl, this]
theorem u4_first (b : List UInt8) (h : 8 ≤ b.length) : (⟨b.take 8, false⟩ : St).u 4 = (lenAt b, ⟨(b.drop 4).take 4, false⟩) := by
  have h1 : b.take 8 = b.take 4 ++ (b.drop 4).take 4 := by rw [show 8 = 4 + 4 from rfl, List.take_add]
  rw [h1, u4_full _ _ (by simp; omega)]
  rfl
theorem u4_second (b : List UInt8) (h : 8 ≤ b.length) : (⟨(b.drop 4).take 4, false⟩ : St).u 4 = (sumAt b, ⟨[], false⟩) := by
  have := u4_full ((b.drop 4).take 4) [] (by simp; omega)
  rw [List.append_nil] at this
  exact this
theorem u4_short (b : List UInt8) (h : b.length < 8) : (((⟨b, false⟩ : St).u 4).2.u 4).2.bad = true := by
  by_cases h4 : 4 ≤ b.length
  · have h1 : b = b.take 4 ++ b.drop 4 := (List.take_append_drop 4 b).symm
    rw [h1, u4_full _ _ (by simp; omega)]
    unfold St.u
    rw [if_neg (by omega), St.bytes_bad (.inr (.inr (by simp; omega)))]
  · have h1 : ((⟨b, false⟩ : St).u 4).2 = ⟨b, true⟩ := by
      unfold St.u
      rw [if_neg (by omega), St.bytes_bad (.inr (.inr (by simp; omega)))]
    rw [h1]
    unfold St.u
    rw [if_neg (by omega), St.bytes_bad (.inl rfl)]
theorem next_short {b : List UInt8} (h0 : b.length ≠ 0) (h : b.length < 8) : nextF b = (4, [], 0) := by
  unfold nextF; rw [if_neg h0, if_pos h]
theorem next_none {b : List UInt8} (h0 : b.length = 0) : nextF b = (6, [], 0) := by
  unfold nextF; rw [if_pos h0]
theorem next_form {b : List UInt8} (h : 8 ≤ b.length) (hf : lenAt b < 1 ∨ 1048576 < lenAt b) : nextF b = (3, [], 0) := by
  unfold nextF; rw [if_neg (by omega), if_neg (by omega), if_pos hf]
theorem next_more {b : List UInt8} (h : 8 ≤ b.length) (hf : ¬ (lenAt b < 1 ∨ 1048576 < lenAt b)) (hm : b.length - 8 < lenAt b) : nextF b = (4, [], 0) := by
  unfold nextF; rw [if_neg (by omega), if_neg (by omega), if_neg hf, if_pos hm]
theorem next_sum {b : List UInt8} (h : 8 ≤ b.length) (hf : ¬ (lenAt b < 1 ∨ 1048576 < lenAt b)) (hm : ¬ b.length - 8 < lenAt b) (hs : ofN ((b.drop 8).take (lenAt b)) ≠ sumAt b) : nextF b = (5, [], 0) := by
  unfold nextF; rw [if_neg (by omega), if_neg (by omega), if_neg hf, if_neg hm, if_pos hs]
theorem next_ok {b : List UInt8} (h : 8 ≤ b.length) (hf : ¬ (lenAt b < 1 ∨ 1048576 < lenAt b)) (hm : ¬ b.length - 8 < lenAt b) (hs : ofN ((b.drop 8).take (lenAt b)) = sumAt b) : nextF b = (0, (b.drop 8).take (lenAt b), lenAt b + 8) := by
  unfold nextF; rw [if_neg (by omega), if_neg (by omega), if_neg hf, if_neg hm, if_neg (by simp [hs])]

/-! frames that are cut off -/
def tornN : List (List UInt8) → Nat → Nat × Nat
  | [], _ => (0, 0)
  | p :: ws, cut => if 8 + p.length ≤ cut then ((tornN ws (cut - (8 + p.length))).1 + 1, (tornN ws (cut - (8 + p.length))).2 + (8 + p.length)) else (0, 0)
theorem tornN_le : ∀ (ws : List (List UInt8)) (cut : Nat), (tornN ws cut).1 ≤ ws.length ∧ (tornN ws cut).2 ≤ cut
  | [], _ => ⟨Nat.le_refl _, Nat.zero_le _⟩
  | p :: ws, cut => by
    have h := tornN_le ws (cut - (8 + p.length))
    unfold tornN
    split
    · simp only [List.length_cons]; omega
    · simp

theorem lenAt_take (p : List UInt8) (cut : Nat) (h8 : 8 ≤ cut) (hp : p.length ≤ 1048576) : lenAt ((frameL p).take cut) = p.length := by
  have := lenAt_frame p [] hp
  rw [List.append_nil] at this
  unfold lenAt at this ⊢
  rw [List.take_take, Nat.min_eq_left (by omega)]
  exact this

theorem all_torn : ∀ (ws : List (List UInt8)) (cut : Nat), (∀ p ∈ ws, 1 ≤ p.length ∧ p.length ≤ 1048576) → cut ≤ (framesL ws).length →
    AllR ((framesL ws).take cut) (ws.take (tornN ws cut).1) (tornN ws cut).2 (if (tornN ws cut).2 = cut then 6 else 4)
  | [], cut, _, hc => by
    have h0 : cut = 0 := by simpa [framesL] using hc
    subst h0
    exact AllR.stop _ _ rfl (by decide)
  | p :: ws, cut, h, hc => by
    have hp := h p (by simp)
    have e1 : framesL (p :: ws) = frameL p ++ framesL ws := rfl
    rw [e1, List.length_append, frameL_length] at hc
    rw [e1]
    unfold tornN
    by_cases hcut : 8 + p.length ≤ cut
    · rw [if_pos hcut]
      have ih := all_torn ws (cut - (8 + p.length)) (fun q hq => h q (by simp [hq])) (by omega)
      have e2 : (frameL p ++ framesL ws).take cut = frameL p ++ (framesL ws).take (cut - (8 + p.length)) := by
        rw [List.take_append, frameL_length, List.take_of_length_le (by rw [frameL_length]; exact hcut)]
      rw [e2]
      have hd : (frameL p ++ (framesL ws).take (cut - (8 + p.length))).drop (p.length + 8) = (framesL ws).take (cut - (8 + p.length)) := List.drop_left' (by rw [frameL_length]; omega)
      have := AllR.step _ _ _ _ _ _ (next_frame p ((framesL ws).take (cut - (8 + p.length))) hp.1 hp.2) (by rw [hd]; exact ih)
      have e3 : (if (tornN ws (cut - (8 + p.length))).2 + (8 + p.length) = cut then 6 else 4) = (if (tornN ws (cut - (8 + p.length))).2 = cut - (8 + p.length) then 6 else 4) := by
        by_cases hq : (tornN ws (cut - (8 + p.length))).2 = cut - (8 + p.length)
        · rw [if_pos hq, if_pos (by omega)]
        · rw [if_neg hq, if_neg (by omega)]
      simp only [List.take_succ_cons]
      have e4 : (tornN ws (cut - (8 + p.length))).2 + (8 + p.length) = (p.length + 8) + (tornN ws (cut - (8 + p.length))).2 := by omega
      rw [e3]
      show AllR _ _ ((tornN ws (cut - (8 + p.length))).2 + (8 + p.length)) _
      rw [e4]
      exact this
    · rw [if_neg hcut]
      have e2 : (frameL p ++ framesL ws).take cut = (frameL p).take cut := by
        rw [List.take_append_of_le_length (by rw [frameL_length]; omega)]
      rw [e2, List.take_zero]
      have hl : ((frameL p).take cut).length = cut := by rw [List.length_take, frameL_length]; omega
      by_cases h0 : cut = 0
      · subst h0
        exact AllR.stop _ _ rfl (by decide)
      · rw [if_neg (by omega)]
        refine AllR.stop _ _ ?_ (by decide)
        by_cases h8 : cut < 8
        · rw [next_short (by omega) (by omega)]
        · have hla := lenAt_take p cut (by omega) hp.2
          rw [next_more (by omega) (by rw [hla]; omega) (by rw [hla, hl]; omega)]

/-- where frames end -/
def endsL : Nat → List (List UInt8) → List Nat
  | _, [] => []
  | off, p :: ws => (off + (8 + p.length)) :: endsL (off + (8 + p.length)) ws
theorem endsL_snoc (off : Nat) (ws : List (List UInt8)) (p : List UInt8) : endsL off (ws ++ [p]) = endsL off ws ++ [off + (framesL (ws ++ [p])).length] := by
  induction ws generalizing off with
  | nil => simp [endsL, framesL, frameL_length]
  | cons q ws ih =>
    have e : (framesL (q :: ws ++ [p])).length = (8 + q.length) + (framesL (ws ++ [p])).length := by
      show (frameL q ++ framesL (ws ++ [p])).length = _
      rw [List.length_append, frameL_length]
    rw [List.cons_append, endsL, endsL, ih, List.cons_append, Nat.add_assoc off, ← e]
    rfl
theorem endsL_length (off : Nat) (ws : List (List UInt8)) : (endsL off ws).length = ws.length := by
  induction ws generalizing off with
  | nil => rfl
  | cons p ws ih => simp [endsL, ih]
def tornStep (cut : Nat) (s : Nat × Nat) (k : Nat) : Nat × Nat := if k ≤ cut then (s.1 + 1, k) else s
theorem torn_past (cut : Nat) : ∀ (ws : List (List UInt8)) (off : Nat) (s : Nat × Nat), cut < off → (endsL off ws).foldl (tornStep cut) s = s
  | [], _, _, _ => rfl
  | p :: ws, off, s, h => by
    rw [endsL, List.foldl_cons, tornStep, if_neg (by omega)]
    exact torn_past cut ws _ s (by omega)
theorem torn_fold (cut : Nat) : ∀ (ws : List (List UInt8)) (off n0 : Nat), off ≤ cut → (endsL off ws).foldl (tornStep cut) (n0, off) = (n0 + (tornN ws (cut - off)).1, off + (tornN ws (cut - off)).2)
  | [], _, _, _ => rfl
  | p :: ws, off, n0, h => by
    rw [endsL, List.foldl_cons, tornStep, tornN]
    by_cases hc : off + (8 + p.length) ≤ cut
    · rw [if_pos hc, if_pos (by omega), torn_fold cut ws _ (n0 + 1) hc, show cut - (off + (8 + p.length)) = cut - off - (8 + p.length) from by omega]
      simp only [Prod.mk.injEq]
      omega
    · rw [if_neg hc, if_neg (by omega), torn_past cut ws _ _ (by omega)]
      simp
theorem framesL_snoc (ws : List (List UInt8)) (p : List UInt8) : framesL (ws ++ [p]) = framesL ws ++ frameL p := by simp [framesL]
theorem framesL_le (ws : List (List UInt8)) (m : Nat) (h : ∀ p ∈ ws, p.length ≤ m) : (framesL ws).length ≤ ws.length * (8 + m) := by
  induction ws with
  | nil => simp [framesL]
  | cons p ws ih =>
    have h1 := h p (by simp)
    have h2 := ih fun q hq => h q (by simp [hq])
    have e : (framesL (p :: ws)).length = (8 + p.length) + (framesL ws).length := by
      show (frameL p ++ framesL ws).length = _
      rw [List.length_append, frameL_length]
    rw [e, List.length_cons, Nat.succ_mul]
    omega
end Go.Proofs.Ytmoijbknjadeeaa
