
/- The law DiskPlays: the Go function returns true, whatever is written, armed and lost. -/
import Derived.Test.YtmoijbknjadeeaaDkLike
import Derived.Test.YtmoijbknjadeeaaOpenOp
namespace Go.Proofs.Ytmoijbknjadeeaa
set_option linter.unusedVariables false
set_option linter.unusedSimpArgs false
open Go.RowKit
theorem bd_nil {M : Nat} : Bd M [] := fun x hx => by cases hx
theorem mod3_below {w w' : World} {B gd bd gr : Nat} (hm : Mod (fun i _ => i = gd ∨ i = bd ∨ i = gr) w w') (h1 : B ≤ gd) (h2 : B ≤ bd) (h3 : B ≤ gr) (hB : B ≤ w.heap.size) : Below B w w' :=
  hm.toBelow (fun i o hi e => by rcases e with e | e | e <;> omega) hB
set_option maxRecDepth 100000 in
set_option maxHeartbeats 4000000 in
theorem diskPlays_walk {A : Option Addr} {n c : Nat} {L : List Opr} {nm : ByteArray} (w : World) (hr : Rd w w.heap.size 6 A n c (L.flatMap Opr.row)) (hf : ∀ o ∈ L, o.keeps w) (hnm : nm.size ≤ maxLen) :
    Calls Try.prog 4 #[.slice A n c, .string nm] w fun r w' => r = .returned (.bool true) ∧ Below w.heap.size w w' := by
  have hl := Rd.count Opr.row_length (by omega) hr
  have hmax := hr.max
  have hle := hr.le
  unfold maxLen at hmax
  subst hl
  have HR := Lib.hid hr
  have HF := Lib.hid hf
  have HRN := fun v => rnew_any v
  clear hr hf
  go_enter Try.func4, Try.ntmps4
  go_upto_region 2 with (first | (((with_reducible refine ((new_dk w)).mono ?_); rintro z w1 ⟨gd, bd, rfl, hd, hwb, hbg, hb1⟩)) | (((with_reducible refine ((HRN _)).mono ?_); rintro z w2 ⟨gr, rfl, hrf, hwr, hb2⟩)))
  have hB := chain hb1 hb2
  have hb0 : Both w2 gd bd gr 0 [] false false 0 0 := ⟨hd.step hb2, hrf, bd_nil⟩
  have hwr2 : w.heap.size ≤ gr := Nat.le_trans hb1.size hwr
  have HB := Lib.hid hB
  have HBO := Lib.hid hb0
  clear hb1 hb2 hB hb0 hd hrf hwr HRN
  go_wp2_with fail
  go_loopw [17] (fun i wr => ∃ (k N : Nat) (l : List Fi) (lost armed : Bool) (left : Int), i = .int .i64 (k : Int) ∧ k ≤ L.length ∧ k ≤ 40 ∧ N ≤ 50 * k ∧ l.length ≤ k ∧ Both wr gd bd gr N l lost armed left (50 * k) ∧ Below w.heap.size w wr) (fun i _ => L.length - (intOf i).toNat)
  case atStart => exact ⟨0, 0, [], false, false, 0, rfl, Nat.zero_le _, by omega, by omega, by simp, HBO.out, HB.out⟩
  case round =>
    clear HB HBO
    obtain ⟨k, N, l, lost, armed, left, rfl, hk, hk40, hN, hll, hbo, hB⟩ := hrel
    have hsz := hB.size
    by_cases hlt : k < L.length
    · obtain ⟨gs, off, e, hg, he⟩ := HR.out.elem Opr.row_length (by omega) (k := k) hlt
      subst e
      have hbc := bcell (Below.mono (B := w.heap.size) hB (Nat.le_refl _))
      have e0 := (hbc.1 _ _ hg).trans (he 0 _ rfl)
      have e1 := (hbc.1 _ _ hg).trans (he 1 _ rfl)
      have e2 := (hbc.1 _ _ hg).trans (he 2 _ rfl)
      have e3 := (hbc.1 _ _ hg).trans (he 3 _ rfl)
      have e4 := (hbc.1 _ _ hg).trans (he 4 _ rfl)
      have e5 := (hbc.1 _ _ hg).trans (he 5 _ rfl)
      rw [Nat.add_zero] at e0
      obtain ⟨hfit, ks, hks, hkb⟩ := HF.out _ (List.getElem_mem hlt)
      have HKS := Lib.hid hks
      have HKB := Lib.hid hkb
      clear he hbc hks hkb
      generalize L[k] = o at *
      by_cases h40 : 40 ≤ k
      ·
        have hd40 : decide (40 ≤ (k : Int)) = true := decide_eq_true (by omega)
        have hb9 := (one_at wr 40 [.int .i64 o.kind, .string o.name, .string o.to, .string o.b, .int .i64 o.n, .slice o.A o.kn o.kc]).2
        replace hbo := hbo.step hb9
        replace hB := chain hB hb9
        clear hb9
        go_upto_region 9 with fail
        clear e0 e1 e2 e3 e4 e5
        generalize World.alloc _ _ = w4 at *
        have HD := dread_any nm hnm w4 hbo.dk (fun x hx => Nat.le_trans (hbo.sm x hx).1 (by omega))
        obtain ⟨bs, hbs⟩ : ∃ bs, rdBytes l lost nm = bs := ⟨_, rfl⟩
        obtain ⟨cc, hcc⟩ : ∃ cc, rdCode l lost nm = cc := ⟨_, rfl⟩
        rw [hbs, hcc] at HD
        have HBO := Lib.hid hbo
        have HB := Lib.hid hB
        clear hbo hB
        go_upto_region 10 with (((with_reducible refine (HD).mono ?_); rintro z v1 ⟨A4, n4, c4, rfl, hown4, hb4⟩))
        have hrd := hown4.rd
        have HRR := rread_any nm v1 (HBO.out.step hb4).rf
        have HB := Lib.hid (chain HB.out hb4)
        rw [hbs, hcc] at HRR
        clear HD hown4 hb4
        go_upto_region 11 with (((with_reducible refine (HRR).mono ?_); rintro z v2 ⟨rfl, hb5⟩))
        replace hrd := hrd.step hb5
        have HB := Lib.hid (chain HB.out hb5)
        have hcv := conv_str hrd
        clear HRR hb5
        go_wp2_with (((with_reducible refine ((awake6 v2)).mono ?_); rintro z v3 ⟨rfl, hb3⟩))
        go_ret
        exact ⟨rfl, chain HB.out hb3⟩
      ·
        have hd40 : decide (40 ≤ (k : Int)) = false := decide_eq_false (by omega)
        go_upto_region 5 with fail
        obtain ⟨h7, hb9⟩ := one_at wr 40 [.int .i64 o.kind, .string o.name, .string o.to, .string o.b, .int .i64 o.n, .slice o.A o.kn o.kc]
        replace hbo := hbo.step hb9
        replace hB := chain hB hb9
        clear hb9 e0 e1 e2 e3 e4 e5
        generalize World.alloc _ _ = w4 at *
        generalize wr.heap.size = g7 at *
        obtain ⟨⟨x0, x1, x2, x3, x4, x5⟩, xf⟩ := at6 h7
        have HST := step_any o hfit ks w4 hbo (fun v hm => by
          have hbv := hB.trans (mod3_below hm (by omega) (by omega) (by omega) hB.size)
          exact Rd.more (Rd.below HKS.out hbv) hbv.size) HKB.out (by omega) (by omega) (by omega)
        unfold Opr.v at HST
        have HB := Lib.hid hB
        clear hbo hB
        go_upto_region 6 with fail
        go_upto_region 8 with (first
          | (((with_reducible refine (HST).mono ?_); rintro z w5 ⟨rfl, hm5, N5, l5, lost5, armed5, left5, hbo5, hN5, hl5⟩))
          | (((with_reducible refine ((like_any w5 hbo5 (by omega) (by omega) (by omega))).mono ?_); rintro z w6 ⟨rfl, hb6⟩)))
        have hB := chain (HB.out.trans (mod3_below hm5 (by omega) (by omega) (by omega) HB.out.size)) hb6
        replace hbo5 := hbo5.step hb6
        have HB2 := Lib.hid hB
        have HBO := Lib.hid hbo5
        clear HB hm5 hb6 hB hbo5 HST h7 x0 x1 x2 x3 x4 x5 xf
        go_wp2_with fail
        go_roundw
        case rel => exact ⟨k + 1, N5, l5, lost5, armed5, left5, by go_num, by omega, by omega, by omega, by omega, HBO.out, HB2.out⟩
        case measure => simp [intOf]; omega
    ·
      go_upto_region 9 with fail
      have HD := dread_any nm hnm wr hbo.dk (fun x hx => Nat.le_trans (hbo.sm x hx).1 (by omega))
      obtain ⟨bs, hbs⟩ : ∃ bs, rdBytes l lost nm = bs := ⟨_, rfl⟩
      obtain ⟨cc, hcc⟩ : ∃ cc, rdCode l lost nm = cc := ⟨_, rfl⟩
      rw [hbs, hcc] at HD
      have HBO := Lib.hid hbo
      have HB := Lib.hid hB
      clear hbo hB
      go_upto_region 10 with (((with_reducible refine (HD).mono ?_); rintro z v1 ⟨A4, n4, c4, rfl, hown4, hb4⟩))
      have hrd := hown4.rd
      have HRR := rread_any nm v1 (HBO.out.step hb4).rf
      have HB := Lib.hid (chain HB.out hb4)
      rw [hbs, hcc] at HRR
      clear HD hown4 hb4
      go_upto_region 11 with (((with_reducible refine (HRR).mono ?_); rintro z v2 ⟨rfl, hb5⟩))
      replace hrd := hrd.step hb5
      have HB := Lib.hid (chain HB.out hb5)
      have hcv := conv_str hrd
      clear HRR hb5
      go_wp2_with (((with_reducible refine ((awake6 v2)).mono ?_); rintro z v3 ⟨rfl, hb3⟩))
      go_ret
      exact ⟨rfl, chain HB.out hb3⟩
end Go.Proofs.Ytmoijbknjadeeaa
