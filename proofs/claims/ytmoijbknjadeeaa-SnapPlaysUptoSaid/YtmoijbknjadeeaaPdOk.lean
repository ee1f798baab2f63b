
/- Chapter 6 as data: what stays right behind each operation; what a file reads as behind it. -/
import Derived.Test.YtmoijbknjadeeaaPd
namespace Go.Proofs.Ytmoijbknjadeeaa
set_option linter.unusedVariables false
set_option linter.unusedSimpArgs false
open Go.RowKit
structure FsOk (l : List Fi) (M K : Nat) : Prop where
  asc : AscF l
  sm : Bd M l
  len : l.length ≤ K
  sure : ∀ x ∈ l, 0 ≤ x.s ∧ x.s ≤ x.b.length
  cor : l.map Fi.core = l
theorem PD.Ok.fsok {d : PD} {M K : Nat} (h : d.Ok M K) : FsOk d.fs M K := ⟨h.asc, h.sm, h.len, h.sure, h.cor⟩
theorem FsOk.pd {d : PD} {M K : Nat} (h : FsOk d.fs M K) (hl : 0 ≤ d.left ∧ d.left < 9223372036854775808) : d.Ok M K := ⟨h.asc, h.sm, h.len, hl, h.sure, h.cor⟩
theorem FsOk.mono {l : List Fi} {M K M' K' : Nat} (h : FsOk l M K) (hM : M ≤ M') (hK : K ≤ K') : FsOk l M' K' := ⟨h.asc, h.sm.mono hM, Nat.le_trans h.len hK, h.sure, h.cor⟩
theorem getF_or (l : List Fi) (k : ByteArray) : (findF l k = none ∧ getF l k = Fi.zero) ∨ (findF l k = some (getF l k) ∧ getF l k ∈ l ∧ (getF l k).k = k) := by
  unfold getF
  cases hf : findF l k with
  | none => exact .inl ⟨rfl, rfl⟩
  | some x =>
    unfold findF at hf
    exact .inr ⟨rfl, List.mem_of_find?_eq_some hf, by have := List.find?_some hf; simpa using this⟩
theorem FsOk.get {l : List Fi} {M K : Nat} (h : FsOk l M K) (k : ByteArray) : (getF l k).b.length ≤ M ∧ 0 ≤ (getF l k).s ∧ (getF l k).s ≤ (getF l k).b.length := by
  rcases getF_or l k with ⟨_, h2⟩ | ⟨_, h2, _⟩
  · rw [h2]; simp [Fi.zero]
  · exact ⟨(h.sm _ h2).1, h.sure _ h2⟩
theorem FsOk.put {l : List Fi} {M K : Nat} (h : FsOk l M K) (e : Fi) (he : e.b.length ≤ M ∧ e.k.size ≤ maxLen) (hs : 0 ≤ e.s ∧ e.s ≤ e.b.length) (hc : e.core = e) (hK : (applyF e false l).length ≤ K) : FsOk (applyF e false l) M K :=
  ⟨applyF_asc _ _ h.asc, bd_put h.asc h.sm e he false, hK, fun x hx => by rcases applyF_mem h.asc hx with rfl | hx; exact hs; exact h.sure x hx, by rw [applyF_core, hc, h.cor]⟩
theorem FsOk.without {l : List Fi} {M K : Nat} (h : FsOk l M K) (k : ByteArray) : FsOk (withoutF l k) M K :=
  ⟨asc_without h.asc k, bd_without h.sm k, Nat.le_trans (without_len l k) h.len, fun x hx => h.sure x (List.mem_filter.1 hx).1, by rw [withoutF_core, h.cor]⟩
theorem put_same {l : List Fi} (e : Fi) (h : AscF l) (hf : (findF l e.k).isSome = true) : (applyF e false l).length = l.length := by
  have := applyF_length e false h
  rw [hf] at this
  simpa using this
theorem without_one {l : List Fi} (k : ByteArray) (h : AscF l) (hf : (findF l k).isSome = true) : (withoutF l k).length + 1 = l.length := by
  have := applyF_length ⟨k, [], none, 0, 0, 0⟩ true h
  rw [without_apply] at this
  simp only [if_true] at this
  rw [hf] at this
  simpa using this
theorem wrP_left {lost armed : Bool} {left : Int} (h : 0 ≤ left ∧ left < 9223372036854775808) : 0 ≤ (wrP lost armed left).left ∧ (wrP lost armed left).left < 9223372036854775808 := by
  unfold wrP
  split
  · exact h
  · split
    · exact h
    · split
      · rename_i h1 h2 h3
        have : left ≠ 0 := by intro e; rw [h3, e] at h2; exact h2 rfl
        simp only
        omega
      · exact h
section
variable {d : PD} {M K : Nat}
theorem ok_go (h : d.Ok M K) {M' : Nat} (hM : M ≤ M') (k : ByteArray) (bad : Bool) {new : List Fi} (hn : (findF d.fs k).isSome = true → FsOk new M' K) : (d.out (goO d.fs k d.lost d.armed d.left bad new)).Ok M' K := by
  have h0 := h.fsok.mono hM (Nat.le_refl K)
  unfold goO
  cases hf : (findF d.fs k).isSome with
  | false => exact FsOk.pd (d := d.out ⟨6, d.fs, d.lost, d.left⟩) h0 h.left0
  | true =>
    simp only [Bool.true_eq_false, if_false]
    cases bad with
    | true => exact FsOk.pd (d := d.out ⟨1, d.fs, d.lost, d.left⟩) h0 h.left0
    | false =>
      simp only [Bool.false_eq_true, if_false]
      refine FsOk.pd (d := d.out ⟨_, _, _, _⟩) ?_ (wrP_left h.left0)
      show FsOk (if _ then new else d.fs) M' K
      split
      · exact hn hf
      · exact h0
theorem ok_ap (h : d.Ok M K) (k : ByteArray) (hk : k.size ≤ maxLen) (y : List UInt8) : (d.out (d.apO k y)).Ok (M + y.length) (K + 1) := by
  have h0 := h.fsok.mono (Nat.le_add_right M y.length) (Nat.le_succ K)
  have hg := h.fsok.get k
  unfold PD.apO apO
  split
  · exact FsOk.pd (d := d.out ⟨1, d.fs, d.lost, d.left⟩) h0 h.left0
  · refine FsOk.pd (d := d.out ⟨_, _, _, _⟩) ?_ (wrP_left h.left0)
    show FsOk (if _ then _ else _) _ _
    split
    · exact h0
    · exact h0.put _ ⟨by simp only [List.length_append]; omega, hk⟩ ⟨hg.2.1, by simp only [List.length_append]; omega⟩ rfl (Nat.le_trans (put_len _ _ h.asc) (Nat.succ_le_succ h.len))
theorem ok_sy (h : d.Ok M K) (k : ByteArray) (hk : k.size ≤ maxLen) : (d.out (d.syO k)).Ok M K := by
  have hg := h.fsok.get k
  exact ok_go h (Nat.le_refl M) k false (fun hf => h.fsok.put ⟨k, _, none, 0, 0, _⟩ ⟨hg.1, hk⟩ ⟨Int.natCast_nonneg _, Int.le_refl _⟩ rfl (by rw [put_same _ h.asc hf]; exact h.len))
theorem ok_rm (h : d.Ok M K) (k : ByteArray) : (d.out (d.rmO k)).Ok M K := ok_go h (Nat.le_refl M) k false (fun _ => h.fsok.without k)
theorem ok_cu (h : d.Ok M K) (k : ByteArray) (m : Int) (hk : k.size ≤ maxLen) : (d.out (d.cuO k m)).Ok M K := by
  have hg := h.fsok.get k
  unfold PD.cuO cuO
  by_cases hm : m < 0 ∨ ((getF d.fs k).b.length : Int) < m
  · have hbad : (decide (m < 0) || decide (((getF d.fs k).b.length : Int) < m)) = true := by simpa using hm
    rw [hbad]
    unfold goO
    split
    · exact FsOk.pd (d := d.out ⟨6, d.fs, d.lost, d.left⟩) h.fsok h.left0
    · exact FsOk.pd (d := d.out ⟨1, d.fs, d.lost, d.left⟩) h.fsok h.left0
  · exact ok_go h (Nat.le_refl M) k _ (fun hf => h.fsok.put ⟨k, _, none, 0, 0, _⟩ ⟨by simp only [List.length_take]; omega, hk⟩ ⟨by show 0 ≤ m; omega, by show m ≤ (((getF d.fs k).b.take m.toNat).length : Int); rw [List.length_take]; omega⟩ rfl (by rw [put_same _ h.asc hf]; exact h.len))
theorem ok_re (h : d.Ok M K) (k to : ByteArray) (hk : to.size ≤ maxLen) : (d.out (d.reO k to)).Ok M K := by
  have hg := h.fsok.get k
  refine ok_go h (Nat.le_refl M) k _ (fun hf => (h.fsok.without k).put ⟨to, _, none, 0, 0, _⟩ ⟨hg.1, hk⟩ hg.2 rfl ?_)
  have h1 := put_len ⟨to, (getF d.fs k).b, none, 0, 0, (getF d.fs k).s⟩ false (asc_without h.asc k)
  have h2 := without_one k h.asc hf
  have := h.len
  omega
theorem ok_arm (h : d.Ok M K) (n : Int) (hn : n < 9223372036854775808) : (d.arm n).Ok M K := FsOk.pd h.fsok (by unfold PD.arm; simp only; split <;> omega)
theorem crashF_mem {ks : List Nat} : ∀ {i : Nat} {l : List Fi} {x : Fi}, x ∈ crashF ks i l → ∃ (j : Nat) (y : Fi), y ∈ l ∧ x = crashX ks j y
  | i, [], x, h => by cases h
  | i, y :: l, x, h => by
    rw [crashF] at h
    rcases List.mem_cons.1 h with rfl | h
    · exact ⟨i, y, by simp, rfl⟩
    · obtain ⟨j, z, hz, e⟩ := crashF_mem h
      exact ⟨j, z, by simp [hz], e⟩
theorem crashF_asc {ks : List Nat} : ∀ {i : Nat} {l : List Fi}, AscF l → AscF (crashF ks i l)
  | i, [], h => h
  | i, y :: l, h => by
    unfold AscF at h
    rw [List.pairwise_cons] at h
    have h2 := crashF_asc (ks := ks) (i := i + 1) h.2
    rw [crashF]
    unfold AscF at h2 ⊢
    rw [List.pairwise_cons]
    refine ⟨fun x hx => ?_, h2⟩
    obtain ⟨j, z, hz, rfl⟩ := crashF_mem hx
    exact h.1 z hz
theorem ok_crash (h : d.Ok M K) (ks : List Nat) : (d.crash ks).Ok M K := by
  refine FsOk.pd (d := d.crash ks) ⟨crashF_asc h.asc, fun x hx => ?_, by show (crashF ks 0 d.fs).length ≤ K; rw [crashF_length]; exact h.len, fun x hx => ?_, crashF_cored ks 0 d.fs⟩ ⟨Int.le_refl 0, by show (0 : Int) < _; omega⟩
  · obtain ⟨j, y, hy, rfl⟩ := crashF_mem hx
    have := h.sm y hy
    exact ⟨by show (y.b.take _).length ≤ M; rw [List.length_take]; omega, this.2⟩
  · obtain ⟨j, y, hy, rfl⟩ := crashF_mem hx
    have h1 := h.sure y hy
    have h2 : crashN ks j y ≤ y.b.length := crashN_le (by omega)
    exact ⟨Int.natCast_nonneg _, by show ((crashN ks j y : Nat) : Int) ≤ ((y.b.take (crashN ks j y)).length : Int); rw [List.length_take]; omega⟩
theorem ok_rb (h : d.Ok M K) (k : ByteArray) : (d.rb k).length ≤ M := by
  unfold PD.rb rdBytes
  split
  · exact (h.fsok.get k).1
  · exact Nat.zero_le _
end
end Go.Proofs.Ytmoijbknjadeeaa
