
/- Chapter 8 as data: what Save leaves. -/
import Derived.Test.YtmoijbknjadeeaaSnapLoad
namespace Go.Proofs.Ytmoijbknjadeeaa
set_option linter.unusedVariables false
set_option linter.unusedSimpArgs false
open Go.RowKit
theorem findF_without : ∀ (l : List Fi) (k j : ByteArray), findF (withoutF l k) j = if j = k then none else findF l j
  | [], k, j => by unfold withoutF findF; simp
  | x :: l, k, j => by
    have ih := findF_without l k j
    by_cases hx : x.k = k
    · have e : withoutF (x :: l) k = withoutF l k := by unfold withoutF; rw [List.filter_cons, if_neg (by simp [hx])]
      rw [e, ih, findF_cons]
      by_cases hj : j = k
      · rw [if_pos hj, if_pos hj]
      · rw [if_neg hj, if_neg hj, if_neg (by rw [hx]; exact fun e => hj e.symm)]
    · have e : withoutF (x :: l) k = x :: withoutF l k := by unfold withoutF; rw [List.filter_cons, if_pos (by simp [hx])]
      rw [e, findF_cons, findF_cons, ih]
      by_cases hj : j = k
      · rw [if_pos hj, if_pos hj, if_neg (by rw [hj]; exact hx)]
      · rw [if_neg hj, if_neg hj]
theorem wr_false (armed : Bool) (left : Int) : ((wrP false armed left).code = 0 ∧ (wrP false armed left).lost = false ∧ (wrP false armed left).left = (if armed then left - 1 else left) ∧ ¬ (armed = true ∧ left = 0)) ∨ ((wrP false armed left).code = 12 ∧ (wrP false armed left).lost = true ∧ armed = true ∧ left = 0) := by
  unfold wrP
  cases armed
  · exact .inl ⟨rfl, rfl, rfl, by simp⟩
  · by_cases h0 : left = 0
    · exact .inr ⟨by simp [h0], by simp [h0], rfl, h0⟩
    · exact .inl ⟨by simp [h0], by simp [h0], by simp [h0], by simp [h0]⟩
def decL (d : PD) : Int := if d.armed then d.left - 1 else d.left
/-- an operation: done, or the disk is lost -/
def StO (d : PD) (o : Out) (yes : List Fi → Prop) (no : List Fi → Prop) : Prop :=
  (o.code = 0 ∧ o.lost = false ∧ o.left = decL d ∧ ¬ (d.armed = true ∧ d.left = 0) ∧ yes o.core) ∨ (o.code = 12 ∧ o.lost = true ∧ d.armed = true ∧ d.left = 0 ∧ no o.core)
section
variable {d : PD} {M K : Nat} {sp nm : ByteArray} {b : List UInt8}
theorem st_go {k : ByteArray} {new : List Fi} (hl : d.lost = false) (hf : (findF d.fs k).isSome = true) {yes no : List Fi → Prop} (hy : yes new) (hn : no d.fs) : StO d (goO d.fs k d.lost d.armed d.left false new) yes no := by
  unfold goO StO
  rw [if_neg (by rw [hf]; simp), if_neg (by simp), hl]
  simp only
  rcases wr_false d.armed d.left with ⟨h1, h2, h3, h4⟩ | ⟨h1, h2, h3, h4⟩
  · exact .inl ⟨h1, h2, h3, h4, by rw [if_pos h1]; exact hy⟩
  · exact .inr ⟨h1, h2, h3, h4, by rw [if_neg (by rw [h1]; decide)]; exact hn⟩
theorem st_rm (hl : d.lost = false) (hne : nm ≠ sp) : (d.rmO sp = ⟨6, d.fs, d.lost, d.left⟩ ∧ findF d.fs sp = none) ∨ StO d (d.rmO sp) (fun l => findF l sp = none ∧ findF l nm = findF d.fs nm) (fun l => findF l nm = findF d.fs nm) := by
  by_cases hf : (findF d.fs sp).isSome = true
  · exact .inr (st_go hl hf ⟨by rw [findF_without, if_pos rfl], by rw [findF_without, if_neg hne]⟩ rfl)
  · have hf2 : (findF d.fs sp).isSome = false := by simpa using hf
    refine .inl ⟨by unfold PD.rmO rmO goO; rw [if_pos hf2], ?_⟩
    cases h : findF d.fs sp with
    | none => rfl
    | some x => rw [h] at hf2; cases hf2
theorem st_ap (hl : d.lost = false) (ha : AscF d.fs) (hk : sp.size ≠ 0) (hne : nm ≠ sp) (hn : findF d.fs sp = none) : StO d (d.apO sp (slL b)) (fun l => findF l sp = some ⟨sp, slL b, none, 0, 0, 0⟩ ∧ findF l nm = findF d.fs nm) (fun l => findF l nm = findF d.fs nm) := by
  unfold PD.apO apO StO
  rw [if_neg hk, hl, if_neg (by simp), getF_none hn]
  simp only
  have h1 := findF_apply ⟨sp, Fi.zero.b ++ slL b, none, 0, 0, Fi.zero.s⟩ false ha
  have e1 : findF (applyF ⟨sp, Fi.zero.b ++ slL b, none, 0, 0, Fi.zero.s⟩ false d.fs) sp = some ⟨sp, slL b, none, 0, 0, 0⟩ := by rw [h1, if_pos rfl]; rfl
  have e2 : findF (applyF ⟨sp, Fi.zero.b ++ slL b, none, 0, 0, Fi.zero.s⟩ false d.fs) nm = findF d.fs nm := by rw [h1, if_neg hne]
  rcases wr_false d.armed d.left with ⟨q1, q2, q3, q4⟩ | ⟨q1, q2, q3, q4⟩
  · exact .inl ⟨q1, q2, q3, q4, e1, e2⟩
  · exact .inr ⟨q1, q2, q3, q4, e2⟩
theorem st_sy (hl : d.lost = false) (ha : AscF d.fs) (hne : nm ≠ sp) (hn : findF d.fs sp = some ⟨sp, slL b, none, 0, 0, 0⟩) : StO d (d.syO sp) (fun l => findF l sp = some ⟨sp, slL b, none, 0, 0, ((slL b).length : Int)⟩ ∧ findF l nm = findF d.fs nm) (fun l => findF l nm = findF d.fs nm) := by
  refine st_go hl (by rw [hn]; rfl) ?_ rfl
  rw [getF_some hn]
  simp only
  have h1 := findF_apply ⟨sp, slL b, none, 0, 0, ((slL b).length : Int)⟩ false ha
  exact ⟨by rw [h1, if_pos rfl]; rfl, by rw [h1, if_neg hne]⟩
theorem st_re (hl : d.lost = false) (ha : AscF d.fs) (hk : nm.size ≠ 0) (hne : nm ≠ sp) (hn : findF d.fs sp = some ⟨sp, slL b, none, 0, 0, ((slL b).length : Int)⟩) : StO d (d.reO sp nm) (fun l => findF l nm = some ⟨nm, slL b, none, 0, 0, ((slL b).length : Int)⟩) (fun l => findF l nm = findF d.fs nm) := by
  unfold PD.reO reO
  rw [decide_eq_false hk, decide_eq_false hne, Bool.or_false]
  refine st_go hl (by rw [hn]; rfl) ?_ rfl
  rw [getF_some hn]
  simp only
  have h1 := findF_apply ⟨nm, slL b, none, 0, 0, ((slL b).length : Int)⟩ false (asc_without ha sp)
  rw [h1, if_pos rfl]
  rfl
theorem spF_ne (nm : ByteArray) : nm ≠ spF nm := fun e => by
  have := congrArg ByteArray.size e
  rw [spF_size] at this
  omega
/-- what Save leaves: the new bytes, or the old ones, and the disk is lost -/
theorem sv_two (hl : d.lost = false) (ho : d.Ok M K) (h1 : 1 ≤ nm.size) (h2 : nm.size + 1 ≤ maxLen) :
    ((svO d (spF nm) nm b).code = 0 ∧ (svO d (spF nm) nm b).lost = false ∧ findF (svO d (spF nm) nm b).core nm = some ⟨nm, slL b, none, 0, 0, ((slL b).length : Int)⟩ ∧ (d.armed = true → 3 ≤ d.left)) ∨
    ((svO d (spF nm) nm b).code = 12 ∧ d.armed = true ∧ findF (svO d (spF nm) nm b).core nm = findF d.fs nm) := by
  have hne := spF_ne nm
  have hsz : (spF nm).size ≠ 0 := by rw [spF_size]; omega
  have hsm : (spF nm).size ≤ maxLen := by rw [spF_size]; exact h2
  generalize spF nm = sp at *
  -- from a disk without the spare file
  have go : ∀ (D : PD) (M' K' : Nat), D.lost = false → D.Ok M' K' → findF D.fs sp = none →
      ((sv3 D sp nm b).code = 0 ∧ (sv3 D sp nm b).lost = false ∧ findF (sv3 D sp nm b).core nm = some ⟨nm, slL b, none, 0, 0, ((slL b).length : Int)⟩ ∧ (D.armed = true → 3 ≤ D.left)) ∨ ((sv3 D sp nm b).code = 12 ∧ D.armed = true ∧ findF (sv3 D sp nm b).core nm = findF D.fs nm) := by
    intro D M' K' hl ho hn
    unfold sv3
    have hA := st_ap (b := b) hl ho.asc hsz hne hn
    have hok1 := ok_ap ho sp hsm (slL b)
    have hL0 := ho.left0
    generalize D.apO sp (slL b) = o1 at *
    rcases hA with ⟨q1, q2, q3, q4, q5, q6⟩ | ⟨q1, q2, q3, q4, q5⟩
    · rw [if_pos q1]
      unfold sv2
      have hS := st_sy (d := D.out o1) (b := b) q2 hok1.asc hne q5
      have hok2 := ok_sy hok1 sp hsm
      generalize (D.out o1).syO sp = o2 at *
      rcases hS with ⟨r1, r2, r3, r4, r5, r6⟩ | ⟨r1, r2, r3, r4, r5⟩
      · rw [if_pos r1]
        unfold sv1
        have hR := st_re (d := (D.out o1).out o2) (b := b) r2 hok2.asc (by omega) hne r5
        generalize ((D.out o1).out o2).reO sp nm = o3 at *
        rcases hR with ⟨t1, t2, t3, t4, t5⟩ | ⟨t1, t2, t3, t4, t5⟩
        · refine .inl ⟨t1, t2, t5, fun ha => ?_⟩
          have e1 : o1.left = D.left - 1 := by rw [q3]; unfold decL; rw [if_pos ha]
          have e2 : o2.left = D.left - 1 - 1 := by rw [r3]; unfold decL; show (if D.armed = true then o1.left - 1 else o1.left) = _; rw [if_pos ha, e1]
          have n1 : D.left ≠ 0 := fun e => q4 ⟨ha, e⟩
          have n2 : o1.left ≠ 0 := fun e => r4 ⟨ha, e⟩
          have n3 : o2.left ≠ 0 := fun e => t4 ⟨ha, e⟩
          omega
        · exact .inr ⟨t1, t3, by rw [t5]; show findF o2.core nm = _; rw [r6]; exact q6⟩
      · rw [if_neg (by rw [r1]; decide)]
        exact .inr ⟨r1, r3, by rw [r5]; exact q6⟩
    · rw [if_neg (by rw [q1]; decide)]
      exact .inr ⟨q1, q3, q5⟩
  unfold svO
  have hok0 := ok_rm ho sp
  rcases st_rm (nm := nm) hl hne with ⟨e, hn⟩ | hS
  · rw [e, if_pos (.inr rfl)]
    exact go (d.out ⟨6, d.fs, d.lost, d.left⟩) M K hl ho hn
  · generalize d.rmO sp = o0 at *
    rcases hS with ⟨q1, q2, q3, q4, q5, q6⟩ | ⟨q1, q2, q3, q4, q5⟩
    · rw [if_pos (.inl q1)]
      rcases go (d.out o0) M K q2 hok0 q5 with ⟨r1, r2, r3, r4⟩ | ⟨r1, r2, r3⟩
      · refine .inl ⟨r1, r2, r3, fun ha => ?_⟩
        have := r4 ha
        have e : o0.left = d.left - 1 := by rw [q3]; unfold decL; rw [if_pos ha]
        have e2 : (d.out o0).left = o0.left := rfl
        omega
      · exact .inr ⟨r1, r2, by rw [r3]; exact q6⟩
    · rw [if_neg (by rw [q1]; decide)]
      exact .inr ⟨q1, q3, q5⟩
/-- a file all of which is sure stays through a crash -/
theorem crash_sure {ks : List Nat} : ∀ {l : List Fi} {i : Nat} {x : Fi}, findF l nm = some x → x.core = x → 0 ≤ x.s → x.s = (x.b.length : Int) → findF (crashF ks i l) nm = some x := by
  intro l
  induction l with
  | nil => intro i x h; unfold findF at h; simp at h
  | cons y l ih =>
    intro i x h hc h0 hs
    rw [crashF, findF_cons]
    rw [findF_cons] at h
    by_cases hy : y.k = nm
    · rw [if_pos hy] at h
      obtain rfl := Option.some.inj h
      rw [if_pos (show (crashX ks i y).k = nm from hy)]
      have hn : crashN ks i y = y.b.length := by
        unfold crashN
        split <;> (try rw [show y.b.length - y.s.toNat + 1 = 1 by omega, Nat.mod_one]) <;> omega
      congr 1
      unfold crashX
      rw [hn, List.take_length, ← hs]
      exact hc
    · rw [if_neg hy] at h
      rw [if_neg (show ¬ (crashX ks i y).k = nm from hy)]
      exact ih h hc h0 hs
theorem ld_sure (hl : d.lost = false) {a : List UInt8} (h : findF d.fs nm = some ⟨nm, slL a, none, 0, 0, ((slL a).length : Int)⟩) : ldC d nm = 0 ∧ ldB d nm = a := by
  have h1 : d.rc nm = 0 := by unfold PD.rc rdCode; rw [h, hl]; rfl
  have h2 : d.rb nm = slL a := by unfold PD.rb rdBytes; rw [getF_some h, h, hl]; rfl
  unfold ldC ldB
  rw [h1, h2]
  have hw : wholeB (slL a) = true := wholeB_sealed a
  rw [if_pos rfl, if_pos rfl, hw, if_pos rfl, if_pos rfl]
  refine ⟨rfl, ?_⟩
  unfold slL
  rw [List.length_append, show (fourL (ofN a)).length = 4 from rfl, Nat.add_sub_cancel, List.take_left]
theorem sv_ok (ho : d.Ok M K) (h2 : (spF nm).size ≤ maxLen) (h3 : nm.size ≤ maxLen) : (d.out (svO d (spF nm) nm b)).Ok (M + (slL b).length) (K + 1) := by
  have hok0 := ok_rm ho (spF nm)
  have hm : ∀ {D : PD}, D.Ok M K → D.Ok (M + (slL b).length) (K + 1) := fun h => h.mono (by omega) (by omega)
  unfold svO
  split
  · unfold sv3
    have hok1 := ok_ap hok0 (spF nm) h2 (slL b)
    split
    · unfold sv2
      have hok2 := ok_sy hok1 (spF nm) h2
      split
      · exact ok_re hok2 (spF nm) nm h3
      · exact hok2
    · exact hok1
  · exact hm hok0
end
end Go.Proofs.Ytmoijbknjadeeaa
