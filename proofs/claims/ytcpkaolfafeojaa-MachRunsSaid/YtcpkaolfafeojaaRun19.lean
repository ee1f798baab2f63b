
/- Chapter 19: Run, at a state. -/
import Derived.Test.YtcpkaolfafeojaaMachAsksWalk
import Derived.Test.YtcpkaolfafeojaaKvRDo
import Derived.Test.YtcpkaolfafeojaaKvInv
namespace Go.Proofs.Ytcpkaolfafeojaa
set_option linter.unusedVariables false
set_option linter.unusedSimpArgs false
open Go.RowKit
/-- the state behind the first k things that are asked; what the next one is told -/
def stS (M : List Ask) (k : Nat) : Int × List It := (M.take k).foldl (fun s o => doSt s.1 s.2 o) (0, [])
def tlS (M : List Ask) (k : Nat) : Told := (planP (stS M k).1 (stS M k).2 (M.getD k Ask.zero)).told
theorem stS_zero (M : List Ask) : stS M 0 = (0, []) := rfl
theorem stS_succ {M : List Ask} {k : Nat} (h : k < M.length) : stS M (k + 1) = doSt (stS M k).1 (stS M k).2 M[k] := by
  unfold stS
  rw [List.take_succ_eq_append_getElem h, List.foldl_append]
  rfl
theorem tlS_at {M : List Ask} {k : Nat} (h : k < M.length) : tlS M k = (planP (stS M k).1 (stS M k).2 M[k]).told := by
  unfold tlS
  rw [show M.getD k Ask.zero = M[k] from by simp [h]]
theorem stS_inv (M : List Ask) : ∀ k, k ≤ M.length → M.length ≤ 100000 → Inv9 (stS M k).1 (stS M k).2 k
  | 0, _, _ => Inv9.nil
  | k + 1, h, hl => by
    have := stS_inv M k (by omega) hl
    rw [stS_succ (show k < M.length by omega)]
    exact this.step (by omega) _
structure TR (w : World) (base : Nat) (r : Res) (t : Told) : Prop where
  code : r.code = t.code
  rev : r.rev = t.rev
  val : r.val = t.val
  own : OwnI w base r.A r.n r.c t.items
def ToldAt (w : World) (base : Nat) (rs : List Res) (M : List Ask) : Prop := ∀ i (h : i < rs.length), TR w base rs[i] (tlS M i)
def RCond (gc gp g b B : Nat) : Nat → Obj → Prop := fun i o => i = gc ∨ i = gp ∨ (B ≤ i ∧ IsT 49 o) ∨ i = g ∨ i = b
section
variable {w0 w w' : World} {gc gp B n g b N : Nat} {M : List Ask} {rs : List Res} {rev : Int} {l : List It}
theorem st_free (hst : IsSt w g b N rev l) {i : Nat} {o : Obj} {t : TypeId} (ho : w.heap[i]? = some o) (hit : IsT t o) (ht : t ≠ 127) : ¬ (i = g ∨ i = b) := by
  rintro (e | e)
  · exact isT_at hst.at_ ho hit ht e
  · obtain ⟨D, ⟨es, clock, hb, r⟩, h2⟩ := hst.mp
    rw [← e, ho] at hb
    injection hb with hb
    subst hb
    exact hit
theorem st_at (hst : IsSt w g b N rev l) {i : Nat} {cs : List Value} {t : TypeId} (hx : At w i t cs) (ht : t ≠ 127) : ¬ (i = g ∨ i = b) := st_free hst hx (by rfl) ht
theorem own_do (hst : IsSt w g b N rev l) (hm : Mod (fun i _ => i = g ∨ i = b) w w') {base s m : Nat} {e : TypeId} {v : Value} {xs : List Value} (hx : w.ownsRow base e s v m xs) (ht : e ≠ 127) : w'.ownsRow base e s v m xs :=
  own_mod hx hm fun i o ho _ hit => st_free hst ho hit ht
theorem ChSt.rebase (h : ChSt w0 w gc gp B M rs n) : ChSt w w gc gp B M rs n := ⟨h.ch, h.pr, Mod.refl _ _⟩
theorem ChSt.doMod (h : ChSt w0 w gc gp B M rs n) (hst : IsSt w g b N rev l) (hm : Mod (fun i _ => i = g ∨ i = b) w w') : ChSt w' w' gc gp B M rs n := by
  obtain ⟨⟨Al, nl, cl, Ad, nt, ct, hc⟩, hp, _⟩ := h
  refine ⟨⟨Al, nl, cl, Ad, nt, ct, hm.at hc.at_ (st_at hst hc.at_ (by decide)), own_do hst hm hc.l (by decide), own_do hst hm hc.told (by decide), hc.bc, hc.bp, hc.len, hc.small⟩, ?_, Mod.refl _ _⟩
  unfold ProcNext at *
  split
  · rename_i hl; rw [dif_pos hl] at hp; exact hm.at hp (st_at hst hp (by decide))
  · rename_i hl; rw [dif_neg hl] at hp; exact hm.at hp (st_at hst hp (by decide))
theorem ChSt.keepSt (h : ChSt w0 w gc gp B M rs n) (hm : Mod (TCond gc gp B) w w') (hst : IsSt w g b N rev l) : IsSt w' g b N rev l := by
  refine ⟨h.keep hm hst.at_ (by decide), ?_, hst.ne⟩
  obtain ⟨o, f, a, hp⟩ := h.proc
  obtain ⟨⟨Al, nl, cl, Ad, nt, ct, hc⟩, _⟩ := h
  obtain ⟨D, ⟨es, clock, hb, r⟩, h2⟩ := hst.mp
  refine ⟨D, ⟨es, clock, hm.block b _ hb ?_, r⟩, h2⟩
  rintro (e | e | ⟨_, e⟩)
  · have hx := hc.at_
    unfold At at hx
    rw [← e, hb] at hx
    injection hx with hx
    cases hx
  · have hx := hp
    unfold ProcAt At at hx
    rw [← e, hb] at hx
    injection hx with hx
    cases hx
  · exact e
theorem ToldAt.doMod {base : Nat} (h : ToldAt w base rs M) (hst : IsSt w g b N rev l) (hm : Mod (fun i _ => i = g ∨ i = b) w w') : ToldAt w' base rs M := fun i hi => ⟨(h i hi).code, (h i hi).rev, (h i hi).val, own_do hst hm (show World.ownsRow _ _ _ _ _ _ _ from (h i hi).own) (by decide)⟩
theorem ToldAt.below {base : Nat} (h : ToldAt w base rs M) (hb : Below w.heap.size w w') : ToldAt w' base rs M := fun i hi => ⟨(h i hi).code, (h i hi).rev, (h i hi).val, (h i hi).own.step hb⟩
theorem ToldAt.feed {base : Nat} {rs2 : List Res} (h : ToldAt w base rs2 M) (hc : ChSt w0 w gc gp B M rs n) (hm : Mod (TCond gc gp B) w w') : ToldAt w' base rs2 M := fun i hi => ⟨(h i hi).code, (h i hi).rev, (h i hi).val, hc.keepOwn hm (show World.ownsRow _ _ _ _ _ _ _ from (h i hi).own) (by decide)⟩
theorem ToldAt.snoc {base : Nat} (h : ToldAt w base rs M) {r : Res} (hr : TR w base r (tlS M rs.length)) : ToldAt w base (rs ++ [r]) M := by
  intro i hi
  by_cases hlt : i < rs.length
  · rw [List.getElem_append_left hlt]; exact h i hlt
  · have e : i = rs.length := by rw [List.length_append, List.length_singleton] at hi; omega
    subst e
    simpa using hr
end
theorem func_neq2 (x : Fn) (a b : Array Value) (w : World) : (binOp BinOp.neq 74 (.func x a b) .nilFunc).run Try.prog w = .ok (.bool true) w := by kernel_rfl
def doV (g : Nat) : Value := .func (.func 38) #[.pointer (some ⟨g, 0, none⟩)] #[]
def RunR (w w' : World) (gc gp g b B : Nat) (M : List Ask) (m : Nat) (x : Ending) : Prop :=
  x = .returned (.bool (decide (M.length ≤ m))) ∧ Mod (RCond gc gp g b B) w w' ∧ ∃ rs, rs.length = m ∧ ChSt w' w' gc gp B M rs m ∧ IsSt w' g b m (stS M m).1 (stS M m).2 ∧ ToldAt w' w.heap.size rs M
set_option maxRecDepth 100000 in
set_option maxHeartbeats 4000000 in
theorem run_any {w0 : World} {gc gp B g b : Nat} {M : List Ask} (most : Int) (w : World) (hs : ChSt w0 w gc gp B M [] 0) (hst : IsSt w g b 0 0 []) (hM : ∀ o ∈ M, o.key.size ≤ 140 ∧ o.iff.size ≤ maxLen) (hl : M.length ≤ 20) (m : Nat) (hm : m = min M.length most.toNat) :
    Calls Try.prog 33 #[.pointer (some ⟨gp, 0, none⟩), doV g, .int .i64 most] w fun x w' => RunR w w' gc gp g b B M m x := by
  have HS := Lib.hid hs.rebase
  have HST := Lib.hid hst
  have HMM := Lib.hid hm
  have HKI := Lib.hid hM
  have HQ := Lib.hid (fun x a b w => func_neq2 x a b w)
  clear hs hst hm hM
  unfold doV
  have hq := HQ.out
  go_enter Try.func33, Try.ntmps33
  go_wp2_with fail
  go_loopw [7] (fun i wr => ∃ (k : Nat) (rs : List Res), i = .int .i64 (k : Int) ∧ k ≤ M.length ∧ k ≤ most.toNat ∧ rs.length = k ∧ ChSt wr wr gc gp B M rs k ∧ IsSt wr g b k (stS M k).1 (stS M k).2 ∧ ToldAt wr w.heap.size rs M ∧ Mod (RCond gc gp g b B) w wr) (fun i _ => most.toNat - (intOf i).toNat)
  case atStart => exact ⟨0, [], rfl, Nat.zero_le _, Nat.zero_le _, rfl, HS.out, HST.out, fun i h => absurd h (by simp), Mod.refl _ _⟩
  case round =>
    clear HS HST
    obtain ⟨k, rs, rfl, hk, hkm, hrs, hs, hst, htl, hm⟩ := hrel
    have HM := Lib.hid hm
    have HS := Lib.hid hs
    have HST := Lib.hid hst
    have HTL := Lib.hid htl
    have HRS := Lib.hid hrs
    clear hm hs hst htl hrs
    by_cases hmo : (k : Int) < most
    · by_cases hlt : k < M.length
      · have hop := op_st HS.out HRS.out hlt
        have hinv := stS_inv M k hk (by omega)
        have hki := HKI.out M[k] (List.getElem_mem hlt)
        have hsu := stS_succ hlt
        have htk := tlS_at hlt
        have hst := HST.out
        obtain ⟨s, hs0⟩ : ∃ s, stS M k = s := ⟨_, rfl⟩
        obtain ⟨rev, l⟩ := s
        rw [hs0] at hinv hsu htk hst
        simp only at hinv hsu htk hst
        generalize M[k] = y at *
        clear HST hs0
        have HDO := fun w2 (h : IsSt w2 g b k rev l) => do_any y w2 h (by omega) hinv.keys (Nat.le_trans hki.1 (by simp only [maxLen]; omega)) hki.2 (plan_key rev l y (Nat.le_trans hki.1 (by simp only [maxLen]; omega)))
        unfold DoR at HDO
        have HSU := Lib.hid hsu
        have HTK := Lib.hid htk
        clear hsu htk hinv hki
        generalize planP rev l y = pl at *
        obtain ⟨⟨tc, tr, tv, ti⟩, pe, pw⟩ := pl
        obtain ⟨ki, kk, v, r, i, j⟩ := y
        unfold Ask.v Ask.cells at hop HDO
        simp only at hop HDO HTK
        have HDO := Lib.hid HDO
        go_upto_region 6 with (((with_reducible refine (hop).mono ?_); rintro z w4 ⟨rfl, hb4⟩))
        obtain ⟨h8, hb5⟩ := one_at w4 37 [.int .i64 ki, .string kk, .string v, .int .i64 r, .string i, .int .i64 j]
        have HM := Lib.hid ((HM.out.below hb4).below hb5)
        have HS := Lib.hid ((HS.out.below hb4).below hb5)
        have HTL := Lib.hid ((HTL.out.below hb4).below hb5)
        replace hst := (hst.step hb4).step hb5
        clear hb4 hb5 hop
        generalize World.alloc w4 _ = w5 at *
        obtain ⟨gx, hgx⟩ : ∃ gx, w4.heap.size = gx := ⟨_, rfl⟩
        rw [hgx] at h8 ⊢
        clear hgx
        obtain ⟨⟨x0, x1, x2, x3, x4, x5⟩, xf⟩ := at6 h8
        have HDO := HDO.out w5 hst
        go_wp2_with (first
          | (((with_reducible refine (HDO).mono ?_); rintro z w6 ⟨A6, n6, c6, rfl, hown6, hst6, hm6, _⟩); (have HF := Lib.hid (feed_st (HS.out.doMod hst hm6) ⟨tc, tr, tv, A6, n6, c6⟩ (by rw [HRS.out]; exact hlt) (by omega))))
          | (((with_reducible refine calls_id ?_); refine HF.out.mono ?_; rintro z w7 ⟨rfl, hs7, hm7⟩)))
        have hs6 := HS.out.doMod hst hm6
        have htr : TR w6 w.heap.size ⟨tc, tr, tv, A6, n6, c6⟩ (tlS M rs.length) := by
          rw [HRS.out, HTK.out]
          exact ⟨rfl, rfl, rfl, own_lower (show World.ownsRow _ _ _ _ _ _ _ from hown6) HM.out.size⟩
        have htl7 := ((HTL.out.doMod hst hm6).snoc htr).feed hs6 hm7
        have hst7 := hs6.keepSt hm7 hst6
        have hm7' := (HM.out.step hm6 (fun i o _ _ e => .inr (.inr (.inr e)))).step hm7 (fun i o _ _ e => (by rcases e with e | e | e; exact .inl e; exact .inr (.inl e); exact .inr (.inr (.inl e)) : RCond gc gp g b B i o))
        clear x0 x1 x2 x3 x4 x5 xf h8 HF HDO hown6 hst6 hm6 hs6 htr hm7 hst
        have HT := Lib.hid htl7
        have HM := Lib.hid hm7'
        have HS7 := Lib.hid hs7.rebase
        have HST := Lib.hid hst7
        clear htl7 hm7' hs7 hst7
        go_roundw
        case rel => exact ⟨k + 1, rs ++ [⟨tc, tr, tv, A6, n6, c6⟩], by go_num, by omega, by omega, by rw [List.length_append, HRS.out]; rfl, HS7.out, by rw [HSU.out]; exact HST.out, HT.out, HM.out⟩
        case measure => simp [intOf]; omega
      · have hkm' : k = M.length := by omega
        have hmk : k = m := by rw [HMM.out]; omega
        subst hmk
        have hop := op_st_no HS.out (by rw [HRS.out]; omega)
        unfold Ask.v Ask.cells Ask.zero at hop
        simp only at hop
        go_upto_region 5 with (((with_reducible refine (hop).mono ?_); rintro z w4 ⟨rfl, hb4⟩))
        obtain ⟨_, hb5⟩ := one_at w4 37 [.int .i64 0, .string ⟨#[]⟩, .string ⟨#[]⟩, .int .i64 0, .string ⟨#[]⟩, .int .i64 0]
        have HM := Lib.hid ((HM.out.below hb4).below hb5)
        have HS := Lib.hid ((HS.out.below hb4).below hb5)
        have HTL := Lib.hid ((HTL.out.below hb4).below hb5)
        have HST := Lib.hid ((HST.out.step hb4).step hb5)
        clear hb4 hb5 hop
        generalize World.alloc w4 _ = w5 at *
        have hop := op_st_no HS.out (by rw [HRS.out]; omega)
        unfold Ask.v Ask.cells Ask.zero at hop
        try simp only at hop
        go_upto_region 8 with (((with_reducible refine (hop).mono ?_); rintro z w8 ⟨rfl, hb8⟩))
        have hm8 := HM.out.below hb8
        have hs8 := HS.out.below hb8
        have ht8 := HST.out.step hb8
        have htl8 := HTL.out.below hb8
        obtain ⟨_, hb9⟩ := one_at w8 37 [.int .i64 0, .string ⟨#[]⟩, .string ⟨#[]⟩, .int .i64 0, .string ⟨#[]⟩, .int .i64 0]
        replace hm8 := hm8.below hb9
        replace hs8 := (hs8.below hb9).rebase
        replace ht8 := ht8.step hb9
        replace htl8 := htl8.below hb9
        clear hb8 hb9 hop HM HS HST HTL
        generalize World.alloc w8 _ = w9 at *
        have HM := Lib.hid hm8
        have HS := Lib.hid hs8
        have HST := Lib.hid ht8
        have HTL := Lib.hid htl8
        clear hm8 hs8 ht8 htl8
        go_wp2_with fail
        go_ret
        refine ⟨?_, HM.out, rs, HRS.out, HS.out, HST.out, HTL.out⟩
        exact congrArg (fun q => Ending.returned (.bool q)) (decide_eq_true (by omega)).symm
    · have hmk : k = m := by rw [HMM.out]; omega
      subst hmk
      by_cases hlt : k < M.length
      · have hop := op_st HS.out HRS.out hlt
        generalize M[k] = y at *
        obtain ⟨ki, kk, v, r, i, j⟩ := y
        unfold Ask.v Ask.cells  at hop
        try simp only at hop
        go_upto_region 8 with (((with_reducible refine (hop).mono ?_); rintro z w8 ⟨rfl, hb8⟩))
        have hm8 := HM.out.below hb8
        have hs8 := HS.out.below hb8
        have ht8 := HST.out.step hb8
        have htl8 := HTL.out.below hb8
        obtain ⟨_, hb9⟩ := one_at w8 37 [.int .i64 ki, .string kk, .string v, .int .i64 r, .string i, .int .i64 j]
        replace hm8 := hm8.below hb9
        replace hs8 := (hs8.below hb9).rebase
        replace ht8 := ht8.step hb9
        replace htl8 := htl8.below hb9
        clear hb8 hb9 hop HM HS HST HTL
        generalize World.alloc w8 _ = w9 at *
        have HM := Lib.hid hm8
        have HS := Lib.hid hs8
        have HST := Lib.hid ht8
        have HTL := Lib.hid htl8
        clear hm8 hs8 ht8 htl8
        go_wp2_with fail
        go_ret
        refine ⟨?_, HM.out, rs, HRS.out, HS.out, HST.out, HTL.out⟩
        exact congrArg (fun q => Ending.returned (.bool q)) (decide_eq_false (by omega)).symm
      · have hop := op_st_no HS.out (by rw [HRS.out]; omega)
        unfold Ask.v Ask.cells Ask.zero at hop
        try simp only at hop
        go_upto_region 8 with (((with_reducible refine (hop).mono ?_); rintro z w8 ⟨rfl, hb8⟩))
        have hm8 := HM.out.below hb8
        have hs8 := HS.out.below hb8
        have ht8 := HST.out.step hb8
        have htl8 := HTL.out.below hb8
        obtain ⟨_, hb9⟩ := one_at w8 37 [.int .i64 0, .string ⟨#[]⟩, .string ⟨#[]⟩, .int .i64 0, .string ⟨#[]⟩, .int .i64 0]
        replace hm8 := hm8.below hb9
        replace hs8 := (hs8.below hb9).rebase
        replace ht8 := ht8.step hb9
        replace htl8 := htl8.below hb9
        clear hb8 hb9 hop HM HS HST HTL
        generalize World.alloc w8 _ = w9 at *
        have HM := Lib.hid hm8
        have HS := Lib.hid hs8
        have HST := Lib.hid ht8
        have HTL := Lib.hid htl8
        clear hm8 hs8 ht8 htl8
        go_wp2_with fail
        go_ret
        refine ⟨?_, HM.out, rs, HRS.out, HS.out, HST.out, HTL.out⟩
        exact congrArg (fun q => Ending.returned (.bool q)) (decide_eq_true (by omega)).symm
end Go.Proofs.Ytcpkaolfafeojaa
