
/- Chapter 11: a store whose disk is never lost. -/
import Derived.Test.YtnkjekkdndjfaaaGreatStoreH
namespace Go.Proofs.YtnkjekkdndjfaaaGreat
set_option linter.unusedVariables false
set_option linter.unusedSimpArgs false
open Go.RowKit
theorem rightF_of11 {rev : Int} : ∀ {l : List It} {p : Option It}, Asc l → (∀ x ∈ l, itOk rev x = true) → (∀ y, p = some y → ∀ x ∈ l, kless y.k x.k = true) → rightF rev p l = true
  | [], _, _, _, _ => rfl
  | x :: l, p, ha, hx, hp => by
    unfold Asc at ha
    rw [List.pairwise_cons] at ha
    have h1 : aheadOk p x = true := by
      cases p with
      | none => rfl
      | some y => exact hp y rfl x (by simp)
    rw [rightF, hx x (by simp), h1, rightF_of11 (p := some x) ha.2 (fun y hy => hx y (by simp [hy])) (fun y e z hz => by injection e with e; subst e; exact ha.1 z hz)]
    rfl
theorem right11 {rev : Int} {l : List It} {n : Nat} (h : Inv9 rev l n) : rightL rev l = true := by
  unfold rightL
  rw [rightF_of11 h.asc (fun x hx => ?_) (fun _ e => by cases e), decide_eq_true h.lo]
  · rfl
  · obtain ⟨a, b, c, d⟩ := h.ok x hx
    unfold itOk
    rw [(keyB_iff x.k).2 a, decide_eq_true b, decide_eq_true c, decide_eq_true d]
    rfl
/-- a state behind at most n things asked, all short -/
structure SI (s : SL) (n : Nat) : Prop where
  inv : Inv9 s.rev s.l n
  val : ∀ x ∈ s.l, x.v.size ≤ 100
  cnt : s.l.length ≤ n
theorem SI.more {s : SL} {n m : Nat} (h : SI s n) (hm : n ≤ m) : SI s m := ⟨h.inv.more hm, h.val, Nat.le_trans h.cnt hm⟩
theorem SI.ks {s : SL} {n : Nat} (h : SI s n) : Ks s := fun x hx => (keyB_iff x.k).2 (h.inv.ok x hx).1
theorem SI.small {s : SL} {n : Nat} (h : SI s n) (hn : n ≤ 1000) : ∀ x ∈ s.l, smallI x := fun x hx => by
  obtain ⟨a, b, c, d⟩ := h.inv.ok x hx
  have := h.inv.hi
  exact ⟨a.2, b, by omega, by omega⟩
theorem flat_le {l : List It} (h : ∀ x ∈ l, (itemL x).length ≤ 244) : (l.flatMap itemL).length ≤ l.length * 244 := by
  induction l with
  | nil => simp
  | cons x l ih =>
    have h1 := h x (by simp)
    have h2 := ih (fun y hy => h y (by simp [hy]))
    rw [List.flatMap_cons, List.length_append, List.length_cons]
    omega
theorem SI.len {s : SL} {n : Nat} (h : SI s n) : (stL s.rev s.l).length ≤ 12 + n * 244 := by
  have h1 := flat_le (l := s.l) (fun x hx => by
    have a := (h.inv.ok x hx).1
    have b := h.val x hx
    rw [itemL_length]
    omega)
  have h2 := h.cnt
  have h3 : s.l.length * 244 ≤ n * 244 := Nat.mul_le_mul_right _ h2
  unfold stL
  rw [List.length_append, List.length_append, putN_length, putN_length]
  omega
theorem applyL_le {l : List It} (e : It) (g : Bool) (h : Asc l) : (applyL e g l).length ≤ l.length + 1 := by
  have h1 := applyL_length e g h
  have h2 : (if g then 0 else 1) ≤ 1 := by split <;> omega
  omega
theorem SI.step {s : SL} {n : Nat} (h : SI s n) (hn : n ≤ 1000) {o : Ask} (hv : o.val.size ≤ 100) (hw : (planP s.rev s.l o).wr = true) :
    SI ⟨(planP s.rev s.l o).eff.r, applyL (planP s.rev s.l o).eff.it (planP s.rev s.l o).eff.g s.l⟩ (n + 1) ∧ (planP s.rev s.l o).eff.right ∧ (planP s.rev s.l o).eff.r < 9223372036854775808 ∧ apOk s.rev s.l (planP s.rev s.l o).eff = true ∧ (effL (planP s.rev s.l o).eff).length ≤ 245 := by
  have hlo := h.inv.lo
  have hhi := h.inv.hi
  have h2 := h.inv.step (by omega) o
  have hap := plan_ap hw hlo (by omega)
  unfold doSt at h2
  rw [hw, hap] at h2
  simp only [Bool.and_self, if_true] at h2
  obtain ⟨a1, a2, a3, a4⟩ := plan_wr hw
  obtain ⟨b1, b2, b3, b4, _⟩ := may_zero a3
  have hk := (keyB_iff _).1 b1
  have hinc := inc_small hlo (by omega)
  have hval : (if o.kind = 5 then (⟨#[]⟩ : ByteArray) else o.val).size ≤ 100 := by
    split
    · exact Nat.zero_le _
    · exact hv
  rw [a4] at h2 hap ⊢
  simp only at h2 hap ⊢
  refine ⟨⟨h2, ?_, ?_⟩, ?_, by rw [hinc]; omega, hap, ?_⟩
  · intro x hx
    rcases applyL_mem h.inv.asc hx with rfl | hx
    · exact hval
    · exact h.val x hx
  · have h5 := applyL_le (Eff.it ⟨o.key, if o.kind = 5 then ⟨#[]⟩ else o.val, inc s.rev, decide (o.kind = 5)⟩) (decide (o.kind = 5)) h.inv.asc
    have h6 := h.cnt
    exact Nat.le_trans h5 (by omega)
  · refine ⟨hk.1, hk.2, Nat.le_trans hval (by omega), by simp only; rw [hinc]; omega, fun hg => ?_⟩
    have h5 : o.kind = 5 := of_decide_eq_true hg
    simp only
    rw [if_pos h5]
    rfl
  · rw [effL_length]
    simp only
    omega
structure LvD (d : PD) (M K : Nat) : Prop where
  ok : d.Ok M K
  lost : d.lost = false
  arm : d.armed = false
section
variable {d : PD} {M K : Nat} {sz : Int}
theorem LvD.mono {M' K' : Nat} (h : LvD d M K) (hM : M ≤ M') (hK : K ≤ K') : LvD d M' K' := ⟨h.ok.mono hM hK, h.lost, h.arm⟩
theorem go_live {new : List Fi} (hl : d.lost = false) (har : d.armed = false) {k : ByteArray} (hf : (findF d.fs k).isSome = true) : goO d.fs k d.lost d.armed d.left false new = ⟨0, new, false, d.left⟩ := by
  unfold goO
  rw [if_neg (by rw [hf]; simp), if_neg (by simp), hl, har]
  rfl
theorem wa_live (h : LvD d M K) (p : List UInt8) (hp : p.length ≠ 0) : ∃ d2, waP ⟨d, sz, false⟩ logN p = (0, ⟨d2, sz + (8 + p.length), false⟩) ∧ LvD d2 (M + (8 + p.length)) (K + 1) := by
  have ho1 := ok_ap h.ok logN logN_hi (frameL p)
  rw [frameL_length] at ho1
  have e1 : d.apO logN (frameL p) = ⟨0, applyF ⟨logN, (getF d.fs logN).b ++ frameL p, none, 0, 0, (getF d.fs logN).s⟩ false d.fs, false, d.left⟩ := by
    unfold PD.apO apO
    rw [if_neg (by decide), h.lost, h.arm]
    rfl
  have ho2 := ok_sy ho1 logN logN_hi
  have hf : (findF (d.out (d.apO logN (frameL p))).fs logN).isSome = true := by
    rw [e1]
    show (findF (applyF _ _ _) _).isSome = true
    rw [findF_apply _ false h.ok.asc, if_pos rfl]
    rfl
  have e2 := go_live (d := d.out (d.apO logN (frameL p))) (new := applyF ⟨logN, (getF (d.out (d.apO logN (frameL p))).fs logN).b, none, 0, 0, ((getF (d.out (d.apO logN (frameL p))).fs logN).b.length : Int)⟩ false (d.out (d.apO logN (frameL p))).fs) (by rw [e1]; rfl) h.arm hf
  have e3 : (d.out (d.apO logN (frameL p))).syO logN = ⟨0, applyF ⟨logN, (getF (d.out (d.apO logN (frameL p))).fs logN).b, none, 0, 0, ((getF (d.out (d.apO logN (frameL p))).fs logN).b.length : Int)⟩ false (d.out (d.apO logN (frameL p))).fs, false, (d.out (d.apO logN (frameL p))).left⟩ := e2
  have e4 : laO d logN p = (d.out (d.apO logN (frameL p))).syO logN := by
    unfold laO
    rw [if_pos (by rw [e1])]
  have e5 : (laO d logN p).code = 0 := by rw [e4, e3]
  have e6 : (laO d logN p).lost = false := by rw [e4, e3]
  refine ⟨d.out (laO d logN p), ?_, ⟨?_, e6, h.arm⟩⟩
  · rw [waP_go hp, e5]
    rfl
  · rw [e4]
    exact ho2
theorem sv_live (h : LvD d M K) (b : List UInt8) : (svO d (spF snapN) snapN b).code = 0 ∧ LvD (d.out (svO d (spF snapN) snapN b)) (M + (b.length + 4)) (K + 1) ∧ findF (d.out (svO d (spF snapN) snapN b)).fs snapN = some ⟨snapN, slL b, none, 0, 0, ((slL b).length : Int)⟩ := by
  have h1 := (sv_two (b := b) (nm := snapN) h.lost h.ok snapN_lo snapN_hi).resolve_right (fun q => by have := q.2.1; rw [h.arm] at this; cases this)
  have h2 := sv_ok (b := b) h.ok (by rw [spF_size]; exact snapN_hi) snapN_mx
  rw [slL_len] at h2
  exact ⟨h1.1, ⟨h2, h1.2.1, h.arm⟩, h1.2.2.1⟩
theorem cl_live (h : LvD d M K) (sz : Int) : ∃ d2, wcP ⟨d, sz, false⟩ logN = (0, ⟨d2, 0, false⟩) ∧ LvD d2 M K ∧ findF d2.fs snapN = findF d.fs snapN ∧ (findF d2.fs logN = none ∨ findF d2.fs logN = some ⟨logN, [], none, 0, 0, 0⟩) := by
  have hok := ok_cu h.ok logN 0 logN_hi
  cases hf : findF d.fs logN with
  | none =>
    have e : d.cuO logN 0 = ⟨6, d.fs, d.lost, d.left⟩ := by
      unfold PD.cuO cuO goO
      rw [if_pos (by rw [hf]; rfl)]
    rw [e] at hok
    refine ⟨d.out ⟨6, d.fs, d.lost, d.left⟩, ?_, ⟨hok, h.lost, h.arm⟩, rfl, .inl hf⟩
    unfold wcP
    rw [if_neg (by simp), e, if_pos (.inr rfl)]
  | some y =>
    have e : d.cuO logN 0 = ⟨0, applyF ⟨logN, [], none, 0, 0, 0⟩ false d.fs, false, d.left⟩ := by
      unfold PD.cuO cuO
      rw [show (decide ((0 : Int) < 0) || decide (((getF d.fs logN).b.length : Int) < 0)) = false by simp, go_live h.lost h.arm (by rw [hf]; rfl)]
      simp
    have hfa := findF_apply ⟨logN, [], none, 0, 0, 0⟩ false h.ok.asc
    rw [e] at hok
    refine ⟨d.out ⟨0, applyF ⟨logN, [], none, 0, 0, 0⟩ false d.fs, false, d.left⟩, ?_, ⟨hok, rfl, h.arm⟩, ?_, .inr ?_⟩
    · unfold wcP
      rw [if_neg (by simp), e, if_pos (.inl rfl)]
    · show findF (applyF _ _ _) _ = _
      rw [hfa, if_neg (Ne.symm log_snap)]
    · show findF (applyF _ _ _) _ = _
      rw [hfa, if_pos rfl]
      rfl
end
section
variable {w w' : World} {gs gd bd N gst bst Ns gl M K n : Nat} {d : PD} {s : SL} {sz ev since : Int} {ld dead : Bool}
theorem IsSto.more {N' Ns' : Nat} (h : IsSto w gs gd bd N gst bst Ns gl d s sz ld ev since dead) (hN : N ≤ N') (hNs : Ns ≤ Ns') : IsSto w gs gd bd N' gst bst Ns' gl d s sz ld ev since dead := ⟨h.blk, h.dk.more hN, h.st.more hNs, h.lg, h.ne⟩
/-- all as one file, on a disk that is not lost -/
theorem cmp_live (w : World) (h : IsSto w gs gd bd N gst bst Ns gl d s sz false ev since false) (hl : LvD d M K) (hs : SI s n) (hM : M ≤ 500000) (hK : K ≤ 1000) (hN : N ≤ 10000) (hNs : Ns ≤ 1000) (hn : n ≤ 100) :
    ∃ d2, LvD d2 (M + (12 + n * 244 + 4)) (K + 1) ∧ findF d2.fs snapN = some ⟨snapN, slL (stL s.rev s.l), none, 0, 0, ((slL (stL s.rev s.l)).length : Int)⟩ ∧ (findF d2.fs logN = none ∨ findF d2.fs logN = some ⟨logN, [], none, 0, 0, 0⟩) ∧
      ∀ v, IsSto v gs gd bd N gst bst Ns gl d s sz false ev since false → Calls Tryz.prog 22 #[.pointer (some ⟨gs, 0, none⟩)] v fun x w' => x = .returned (.int .i64 0) ∧ Mod (M6 gs gd bd gst bst gl) v w' ∧ IsSto w' gs gd bd (N + 6) gst bst Ns gl d2 s 0 false ev 0 false := by
  obtain ⟨h1, h2, h3⟩ := sv_live hl (stL s.rev s.l)
  obtain ⟨d2, h4, h5, h6, h7⟩ := cl_live h2 sz
  have hlen := hs.len
  have hlo := hs.inv.lo
  have hhi := hs.inv.hi
  refine ⟨d2, h5.mono (by omega) (Nat.le_refl _), h6.trans h3, h7, fun v hv => ?_⟩
  exact scompact_ok v hv hl.ok (by omega) (by omega) (by omega) (by omega) (hs.small (by omega)) hlo (by omega) (by omega) h1 h4
def LIVE (w w' : World) (gs gd bd N gst bst Ns gl M K n : Nat) (sz ev since : Int) (x : Ending) : Prop :=
  (∃ tc tr tv A m c, x = .returned (.agg #[.int .i64 tc, .int .i64 tr, .string tv, .slice A m c])) ∧ Mod (M6 gs gd bd gst bst gl) w w' ∧
    ∃ d' s' sz' since', IsSto w' gs gd bd (N + 8) gst bst (Ns + 1) gl d' s' sz' false ev since' false ∧ LvD d' (M + (12 + n * 244 + 4) + 260) (K + 2) ∧ SI s' (n + 1) ∧ (0 ≤ sz' ∧ sz' ≤ sz + 300) ∧ (0 ≤ since' ∧ since' ≤ since + 1)
theorem sdo_live (o : Ask) (w : World) (h : IsSto w gs gd bd N gst bst Ns gl d s sz false ev since false) (hl : LvD d M K) (hs : SI s n) (hM : M ≤ 400000) (hK : K ≤ 900) (hN : N ≤ 9000) (hNs : Ns ≤ 900) (hn : n ≤ 100) (hev : 1 ≤ ev) (hsz : 0 ≤ sz ∧ sz ≤ 100000) (hsi : 0 ≤ since ∧ since ≤ 1000) (hv : o.val.size ≤ 100) (hks : o.key.size ≤ maxLen) (his : o.iff.size ≤ maxLen) :
    Calls Tryz.prog 18 #[.pointer (some ⟨gs, 0, none⟩), o.v] w fun x w' => LIVE w w' gs gd bd N gst bst Ns gl M K n sz ev since x := by
  by_cases hlt : since < ev
  · cases hwr : (planP s.rev s.l o).wr with
    | false =>
      refine (sdo_read o w h hlt (by omega) hs.ks hks his hwr).mono ?_
      rintro x w' ⟨A, m, c, rfl, _, hm, h'⟩
      exact ⟨⟨_, _, _, A, m, c, rfl⟩, hm, d, s, sz, since, h'.more (by omega) (by omega), hl.mono (by omega) (by omega), hs.more (by omega), by omega, by omega⟩
    | true =>
      obtain ⟨s1, s2, s3, s4, s5⟩ := hs.step (by omega) hv hwr
      obtain ⟨d2, h1, h2⟩ := wa_live (sz := sz) hl (effL (planP s.rev s.l o).eff) (by rw [effL_length]; omega)
      refine (sdo_write o w h hlt hl.ok (by omega) (by omega) (by omega) (by omega) (by omega) hs.ks hks his hwr s2 s3 s4 h1).mono ?_
      rintro x w' ⟨A, m, c, rfl, _, hm, h'⟩
      exact ⟨⟨_, _, _, A, m, c, rfl⟩, hm, d2, _, _, _, h'.more (by omega) (by omega), h2.mono (by omega) (by omega), s1, by simp only; omega, by omega⟩
  · obtain ⟨d2, h1, _, _, HCP⟩ := cmp_live w h hl hs (by omega) (by omega) (by omega) (by omega) hn
    cases hwr : (planP s.rev s.l o).wr with
    | false =>
      refine (sdo_read_c o w h (by omega) (by omega) hs.ks hks his hwr HCP).mono ?_
      rintro x w' ⟨A, m, c, rfl, _, hm, h'⟩
      exact ⟨⟨_, _, _, A, m, c, rfl⟩, hm, d2, s, 0, 0, h'.more (by omega) (by omega), h1.mono (by omega) (by omega), hs.more (by omega), by omega, by omega⟩
    | true =>
      obtain ⟨s1, s2, s3, s4, s5⟩ := hs.step (by omega) hv hwr
      obtain ⟨d3, h3, h4⟩ := wa_live (sz := 0) h1 (effL (planP s.rev s.l o).eff) (by rw [effL_length]; omega)
      refine (sdo_write_c o w h (by omega) h1.ok (by omega) (by omega) (by omega) (by omega) hs.ks hks his hwr s2 s3 s4 h3 HCP).mono ?_
      rintro x w' ⟨A, m, c, rfl, _, hm, h'⟩
      exact ⟨⟨_, _, _, A, m, c, rfl⟩, hm, d3, _, _, _, h'.more (by omega) (by omega), h4.mono (by omega) (by omega), s1, by simp only; omega, by omega⟩
end
end Go.Proofs.YtnkjekkdndjfaaaGreat
