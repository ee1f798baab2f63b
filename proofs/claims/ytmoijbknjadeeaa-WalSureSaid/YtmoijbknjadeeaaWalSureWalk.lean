
/- The law WalSure: behind a crash all records that were appended without an error are there, and at most one more. -/
import Derived.Test.YtmoijbknjadeeaaWalSurePure
import Derived.Test.YtmoijbknjadeeaaWalSame
import Derived.Test.YtmoijbknjadeeaaWalCut
namespace Go.Proofs.Ytmoijbknjadeeaa
set_option linter.unusedVariables false
set_option linter.unusedSimpArgs false
open Go.RowKit
theorem OwnS.of {w0 w : World} {n c : Nat} {A : Option Addr} {ys : List Bsl} (h : w.ownsRow w0.heap.size 27 1 (.slice A n c) n (ys.map Bsl.val)) (hy : ∀ y ∈ ys, RdB w0 w0.heap.size y.A y.n y.c y.l) (hb : Below w0.heap.size w0 w) : OwnS w w0.heap.size A n c ys :=
  ⟨h, fun y hq => .inl (RdB.below (hy y hq) hb)⟩
set_option maxRecDepth 100000 in
set_option maxHeartbeats 4000000 in
theorem walSure_walk {Al : Option Addr} {nl cl : Nat} {xs : List Bsl} {q : Nat} (hq : q < 256) {Ak : Option Addr} {nk ck : Nat} {ks : List Nat} (w : World) (hl : RdS w w.heap.size Al nl cl xs) (hk : RdK w w.heap.size Ak nk ck ks) (hks : ∀ x ∈ ks, x < 65536) :
    Calls Try.prog 7 #[.slice Al nl cl, .int .u8 (q : Int), .slice Ak nk ck] w fun x w' => x = .returned (.bool true) ∧ Below w.heap.size w w' := by
  have hlen := hl.length
  have hle := hl.1.le
  have hmax := hl.1.max
  unfold maxLen at hmax
  have HL := Lib.hid hl
  have HK := Lib.hid hk
  have HKS := Lib.hid hks
  clear hl hk hks
  have hwq : IntKind.i64.wrap (q : Int) = (q : Int) := IntWalk.i64_in _ (by omega)
  go_enter Try.func7, Try.ntmps7
  go_upto_region 2 with (((with_reducible refine ((pd_new w)).mono ?_); rintro z w1 ⟨gd, bd, rfl, hd, hwb, hbg, hb⟩))
  have HO := wopen_pd0 (by omega) w1 (show IsD w1 gd bd 0 (pd0 false false 0) from hd) (by omega)
  go_upto_region 3 with (((with_reducible refine (HO).mono ?_); rintro z w2 ⟨gl, rfl, hlg, hgl, hb2⟩))
  have hd2 : IsD w2 gd bd 0 (pd0 false false 0) := hd.step hb2
  have hB2 := chain hb hb2
  have hgl2 : w.heap.size ≤ gl := Nat.le_trans hb.size hgl
  have HDE := wdead_any w2 hlg
  have HAR := pd_arm ((q : Int) % 40) (by omega) w2 hd2
  clear HO hd hb2 hb hgl
  go_upto_region 6 with (first | (((with_reducible refine (HDE).mono ?_); rintro z v ⟨rfl, rfl⟩)) | (((with_reducible refine (HAR).mono ?_); rintro z w3 ⟨rfl, hm3, hd3⟩)))
  obtain ⟨left0, hl0⟩ : ∃ left0, (pd0 false false 0).arm ((q : Int) % 40) = Sdk [] left0 := ⟨_, by rw [Sdk.nil]; rfl⟩
  rw [hl0] at hd3
  have hlg3 := lg_keep hlg hd2 hm3
  have HB := Lib.hid (hB2.trans (mod2w hm3 (by omega) hwb hB2.size))
  have HW := Lib.hid (show IsW w3 gl gd bd 0 wF ⟨Sdk [] left0, 0, false⟩ from ⟨hlg3, hd3⟩)
  clear HDE HAR hm3 hd3 hd2 hlg hlg3 hB2 hl0 hwq
  go_wp2_with fail
  go_loopw [11, 12, 39] (fun va vl i wr => ∃ (ys : List Bsl) (k N : Nat) (A1 : Option Addr) (n1 c1 : Nat) (left : Int), va = .slice A1 n1 c1 ∧ vl = .slice none 0 0 ∧ i = .int .i64 (k : Int) ∧ k ≤ nl ∧ n1 ≤ 15 ∧ n1 ≤ k ∧ N ≤ 2 * n1 ∧ ys.length = n1 ∧ wr.ownsRow w.heap.size 27 1 (.slice A1 n1 c1) n1 (ys.map Bsl.val) ∧ (∀ y ∈ ys, RdB w w.heap.size y.A y.n y.c y.l) ∧ (∀ p ∈ ys.map Bsl.l, 1 ≤ p.length ∧ p.length ≤ 40) ∧ IsW wr gl gd bd N wF ⟨Sdk (ys.map Bsl.l) left, ((framesL (ys.map Bsl.l)).length : Nat), false⟩ ∧ Below w.heap.size w wr) (fun _ _ i _ => nl - (intOf i).toNat)
  case atStart => exact ⟨[], 0, 0, none, 0, 0, left0, rfl, rfl, rfl, Nat.zero_le _, by omega, by omega, by omega, rfl, World.ownsRow_nil _ _ _ _, by simp, by simp, HW.out, HB.out⟩
  case round =>
    clear HB HW
    obtain ⟨ys, k, N, A1, n1, c1, left, rfl, rfl, rfl, hk, hn15, hnk, hN, hyn, hown, hyr, hyp, hW, hB⟩ := hrel
    have hfl := framesL_le (ys.map Bsl.l) 40 fun p hp => (hyp p hp).2
    rw [List.length_map, hyn] at hfl
    have hfb : (framesL (ys.map Bsl.l)).length ≤ 720 := Nat.le_trans hfl (by omega)
    have HYR := Lib.hid hyr
    have HYP := Lib.hid hyp
    clear hyr hyp hfl
    by_cases hlt : k < nl
    · obtain ⟨ga, oa, e, hga, hcell, hry⟩ := HL.out.get (k := k) (by omega)
      subst e
      have hcell2 := ((bcell (Below.mono (B := w.heap.size) hB (Nat.le_refl _))).1 _ _ hga).trans hcell
      clear hcell
      generalize xs[k] = y at *
      obtain ⟨yA, yn, yc, yl⟩ := y
      simp only at hcell2 hry
      have hp := hry.take07 40
      have hpl : (yl.take 40).length ≤ 40 := by rw [List.length_take]; omega
      have HCU := cut07 yA yn yc w.heap.size yl wr (RdB.below hry hB)
      generalize yl.take 40 = p at *
      have HOW := Lib.hid hown
      have HWW := Lib.hid hW
      have HB := Lib.hid hB
      clear hown hW hB hry
      go_upto_region 12 with (((with_reducible refine (HCU).mono ?_); rintro z v ⟨rfl, rfl⟩))
      clear HCU hcell2
      by_cases h15 : 15 ≤ k
      ·
        have hd15 : decide (15 ≤ (k : Int)) = true := decide_eq_true (by omega)
        go_wp2_with fail
        go_roundw
        case rel => exact ⟨ys, k + 1, N, A1, n1, c1, left, rfl, rfl, by go_num, by omega, hn15, by omega, hN, hyn, HOW.out, HYR.out, HYP.out, HWW.out, HB.out⟩
        case measure => simp [intOf]; omega
      · have hd15 : decide (15 ≤ (k : Int)) = false := decide_eq_false (by omega)
        by_cases hp0 : p.length = 0
        ·
          have hpe : (((p.length : Nat) : Int) == 0) = true := by rw [hp0]; rfl
          go_wp2_with fail
          go_roundw
          case rel => exact ⟨ys, k + 1, N, A1, n1, c1, left, rfl, rfl, by go_num, by omega, hn15, by omega, hN, hyn, HOW.out, HYR.out, HYP.out, HWW.out, HB.out⟩
          case measure => simp [intOf]; omega
        · have hpe : (((p.length : Nat) : Int) == 0) = false := by simpa using hp0
          have hsz := HB.out.size
          have HAP := wapp_any (s := ⟨Sdk (ys.map Bsl.l) left, ((framesL (ys.map Bsl.l)).length : Nat), false⟩) wF_hi yA p.length yc p wr HWW.out (Sdk.okD HWW.out.dk) (by omega) (by omega) (RdB.more (RdB.below hp HB.out) hsz) (by omega) (by simp only; omega)
          rw [waP_go hp0] at HAP
          obtain ⟨left', hadd⟩ := Sdk.add (ys.map Bsl.l) left p
          have hgd := HWW.out.dk.lt
          rcases hadd with ⟨hc, ho⟩ | ⟨hc, ho⟩
          · rw [hc, ho] at HAP
            go_upto_region 14 with (((with_reducible refine (HAP).mono ?_); rintro z w5 ⟨rfl, hm5, hW5⟩))
            have hown5 := HWW.out.own HOW.out (by decide) (by decide) hm5
            have hB5 := HB.out.trans (mod3w hm5 hgl2 (by omega) hwb hsz)
            replace hW5 : IsW w5 gl gd bd (N + 2) wF ⟨Sdk ((ys ++ [(⟨yA, p.length, yc, p⟩ : Bsl)]).map Bsl.l) left', ((framesL ((ys ++ [(⟨yA, p.length, yc, p⟩ : Bsl)]).map Bsl.l)).length : Nat), false⟩ := by
              have e : ((framesL ((ys ++ [(⟨yA, p.length, yc, p⟩ : Bsl)]).map Bsl.l)).length : Int) = ((framesL (ys.map Bsl.l)).length : Int) + (8 + (p.length : Int)) := by
                rw [List.map_append, List.map_singleton, framesL_snoc, List.length_append, frameL_length]; dsimp only; omega
              rw [e, List.map_append]
              simpa using hW5
            clear HAP hm5 hc ho
            have hbx : Below w5.heap.size w5 (w5.alloc (.cells #[.slice yA p.length yc] 27)) := (Below.refl _ _).alloc (Nat.le_refl _) _
            have HWX := Lib.hid (hW5.step hbx)
            have HBX := Lib.hid (chain hB5 hbx)
            have hownx : OwnS _ w.heap.size A1 n1 c1 ys := OwnS.of (own_below hown5 hbx) HYR.out HBX.out
            have helt : EltB (w5.alloc (.cells #[.slice yA p.length yc] 27)) w.heap.size ⟨yA, p.length, yc, p⟩ := .inl (RdB.below hp HBX.out)
            have hszx := HBX.out.size
            clear hW5 hown5 hB5 hbx
            go_upto_region 19 with (at_builtin; refine app_s rfl (.tmp 72) (.tmp 74) rfl rfl hownx ⟨yA, p.length, yc, p⟩ rfl Rd.one helt ?_ (by omega) hszx; intro A6 c6 w6 hown6 hb6 hG6)
            have HW6 := Lib.hid (HWX.out.row hownx.1 (by decide) (by decide) (by decide) hG6)
            have HB6 := Lib.hid (HBX.out.trans hb6)
            have HO6 := Lib.hid hown6.1
            clear hG6 hb6 hownx helt hown6
            go_wp2_with fail
            go_roundw
            case rel =>
              refine ⟨ys ++ [(⟨yA, p.length, yc, p⟩ : Bsl)], k + 1, N + 2, A6, n1 + 1, c6, left', rfl, rfl, by go_num, by omega, by omega, by omega, by omega, by rw [List.length_append, hyn]; rfl, HO6.out, fun y hy => ?_, fun q hy => ?_, HW6.out, HB6.out⟩
              · rcases List.mem_append.1 hy with hy | hy
                · exact HYR.out y hy
                · simp only [List.mem_singleton] at hy
                  subst hy
                  exact hp
              · rw [List.map_append] at hy
                rcases List.mem_append.1 hy with hy | hy
                · exact HYP.out q hy
                · simp only [List.map_cons, List.map_nil, List.mem_singleton] at hy
                  subst hy
                  exact ⟨by omega, hpl⟩
            case measure => simp [intOf]; omega
          · rw [hc, ho] at HAP
            go_upto_region 14 with (((with_reducible refine (HAP).mono ?_); rintro z w5 ⟨rfl, hm5, hW5⟩))
            have hown5 := HWW.out.own HOW.out (by decide) (by decide) hm5
            have hB5 := HB.out.trans (mod3w hm5 hgl2 (by omega) hwb hsz)
            replace hW5 : IsW w5 gl gd bd (N + 2) wF ⟨Fdk (ys.map Bsl.l) p left', ((framesL (ys.map Bsl.l)).length : Nat), true⟩ := by simpa using hW5
            clear HAP hm5 hc ho
            have hfl2 : (framesL (ys.map Bsl.l ++ [p])).length ≤ 768 := by rw [framesL_snoc, List.length_append, frameL_length]; omega
            have hfl3 : (framesL (ys.map Bsl.l)).length ≤ (framesL (ys.map Bsl.l ++ [p])).length := by rw [framesL_snoc, List.length_append]; omega
            have hok5 : (Fdk (ys.map Bsl.l) p left').Ok (framesL (ys.map Bsl.l ++ [p])).length 1 := ok_pd1 wF_hi ⟨by omega, by omega⟩ hW5.dk.left0
            have HDE := wdead_any w5 hW5.lg
            have hsz5 := hB5.size
            have HA2 := wapp_any (s := ⟨Fdk (ys.map Bsl.l) p left', ((framesL (ys.map Bsl.l)).length : Nat), true⟩) wF_hi yA p.length yc p w5 hW5 hok5 (by omega) (by omega) (RdB.more (RdB.below hp hB5) hsz5) (by omega) (by simp only; omega)
            rw [show waP ⟨Fdk (ys.map Bsl.l) p left', ((framesL (ys.map Bsl.l)).length : Nat), true⟩ wF p = (12, ⟨Fdk (ys.map Bsl.l) p left', ((framesL (ys.map Bsl.l)).length : Nat), true⟩) from rfl] at HA2
            simp only at HDE
            go_upto_region 20 with (first | (((with_reducible refine (HDE).mono ?_); rintro z v ⟨rfl, rfl⟩)) | (((with_reducible refine (HA2).mono ?_); rintro z w6 ⟨rfl, hm6, hW6⟩)))
            have hown6 := hW5.own hown5 (by decide) (by decide) hm6
            have hB6 := hB5.trans (mod3w hm6 hgl2 (by omega) hwb hsz5)
            have hd6 := hW6.dk
            simp only at hd6
            clear HDE HA2 hm6 hW5 hown5 hB5
            have HCR := pd_crash Ak nk ck ks w6 hd6 hok5 (by omega) (by omega) (by omega) (fun v hm => by
              have hbv := hB6.trans (hm.toBelow (B := w.heap.size) (fun i o hi e => by omega) hB6.size)
              exact Rd.more (Rd.below HK.out hbv) hbv.size) HKS.out
            go_upto_region 21 with (((with_reducible refine (HCR).mono ?_); rintro z w7 ⟨rfl, hm7, hd7⟩))
            have hown7 := own_mod hown6 hm7 (fun i o ho _ hit e => hd6.free ho hit (by decide) e)
            have hB7 := hB6.trans (mod2w hm7 (by omega) hwb hB6.size)
            clear HCR hm7 hd6 hown6 hB6 hW6 hok5
            have hpp : ∀ q ∈ ys.map Bsl.l ++ [p], 1 ≤ q.length ∧ q.length ≤ 1048576 := fun q hy => by
              rcases List.mem_append.1 hy with hy | hy
              · have := HYP.out q hy; omega
              · simp only [List.mem_singleton] at hy; subst hy; omega
            have HRO := reopen_lost hpp (by omega) w7 hd7 (by omega)
            have hlt7 := fun i (hi : (Value.slice A1 n1 c1).ownBlock = some i) => own_lt hown7 hi
            have hd7' := Lib.hid hd7
            clear hd7
            obtain ⟨a, rfl⟩ : ∃ a, yA = some a := by
              obtain ⟨g, off, e, _⟩ := hp.cells (by have := hp.le; omega)
              exact ⟨_, e⟩
            go_upto_region 24 with (((with_reducible refine (HRO).mono ?_); rintro z w8 ⟨gl8, A8, c8, us, rfl, hrs, hm8, hus⟩))
            have hown8 := own_mod hown7 hm8 (fun i o ho _ hit e => hd7'.out.free ho hit (by decide) e)
            have hB8 := hB7.trans (mod2w hm8 (by omega) hwb hB7.size)
            clear HRO hm8 hown7 hB7
            rcases hus with hus | hus
            · have hul : us.length = n1 := by have := congrArg List.length hus; rw [List.length_map, List.length_map, hyn] at this; exact this
              have hcmp : (((us.length : Nat) : Int) == (n1 : Int) + 1) = false := by rw [hul]; simp; omega
              clear hul
              have hown9 : OwnS w8 w.heap.size A1 n1 c1 ys := OwnS.of hown8 HYR.out hB8
              have hszz := hB8.size
              have HB := Lib.hid hB8
              clear hown8 hB8
              go_upto_region 26 with fail
              have HS := same07 _ _ _ _ us _ _ _ _ ys w8 hrs.rd (hown9.rd hszz)
              rw [decide_eq_true hus] at HS
              go_wp2_with (first | (((with_reducible refine (HS).mono ?_); rintro z v9 ⟨rfl, k9, rfl⟩)) | (((with_reducible refine ((awake7 _)).mono ?_); rintro z w9 ⟨rfl, hb9⟩)))
              go_ret
              exact ⟨rfl, chain (HB.out.trans (below_drewN (Below.refl _ _) _)) hb9⟩
            · have hul : us.length = n1 + 1 := by have := congrArg List.length hus; rw [List.length_map, List.length_append, List.length_map, hyn] at this; exact this
              have hcmp : (((us.length : Nat) : Int) == (n1 : Int) + 1) = true := by rw [hul]; simp
              clear hul
              have hsz8 := hB8.size
              have hbx : Below w8.heap.size w8 (w8.alloc (.cells #[.slice (some a) p.length yc] 27)) := (Below.refl _ _).alloc (Nat.le_refl _) _
              have HBX := Lib.hid (chain hB8 hbx)
              have hownx : OwnS _ w.heap.size A1 n1 c1 ys := OwnS.of (own_below hown8 hbx) HYR.out HBX.out
              have helt : EltB (w8.alloc (.cells #[.slice (some a) p.length yc] 27)) w.heap.size ⟨some a, p.length, yc, p⟩ := .inl (RdB.below hp HBX.out)
              have hszx := HBX.out.size
              have hrsx := hrs.step hbx
              clear hown8 hB8 hbx hrs
              go_upto_region 26 with (at_builtin; refine app_s rfl (.tmp 98) (.tmp 100) rfl rfl hownx ⟨some a, p.length, yc, p⟩ rfl Rd.one helt ?_ (by omega) hszx; intro A9 c9 w9 hown9 hb9 hG9)
              have hrs9 := hrsx.apart hownx.1 hlt7 hG9
              have HB := Lib.hid (HBX.out.trans hb9)
              have hszz := HB.out.size
              have hus2 : us.map Bsl.l = (ys ++ [(⟨some a, p.length, yc, p⟩ : Bsl)]).map Bsl.l := by rw [hus, List.map_append]; rfl
              clear hownx helt hrsx hb9 hG9
              have HS := same07 _ _ _ _ us _ _ _ _ (ys ++ [(⟨some a, p.length, yc, p⟩ : Bsl)]) w9 hrs9.rd (hown9.rd hszz)
              rw [decide_eq_true hus2] at HS
              go_wp2_with (first | (((with_reducible refine (HS).mono ?_); rintro z v9 ⟨rfl, k9, rfl⟩)) | (((with_reducible refine ((awake7 _)).mono ?_); rintro z w9 ⟨rfl, hb9⟩)))
              go_ret
              exact ⟨rfl, chain (HB.out.trans (below_drewN (Below.refl _ _) _)) hb9⟩
    · have hd := hW.dk
      simp only at hd
      have HCR := pd_crash Ak nk ck ks wr hd (Sdk.okD hd) (by omega) (by omega) (by omega) (fun v hm => by
        have hbv := hB.trans (hm.toBelow (B := w.heap.size) (fun i o hi e => by omega) hB.size)
        exact Rd.more (Rd.below HK.out hbv) hbv.size) HKS.out
      go_upto_region 21 with (((with_reducible refine (HCR).mono ?_); rintro z w7 ⟨rfl, hm7, hd7⟩))
      have hown7 := own_mod hown hm7 (fun i o ho _ hit e => hd.free ho hit (by decide) e)
      have hB7 := hB.trans (mod2w hm7 (by omega) hwb hB.size)
      clear HCR hm7 hd hown hB hW
      have hpp : ∀ q ∈ ys.map Bsl.l, 1 ≤ q.length ∧ q.length ≤ 1048576 := fun q hy => by have := HYP.out q hy; omega
      have HRO := reopen_all hpp (by omega) w7 hd7 (by omega)
      have hd7' := Lib.hid hd7
      clear hd7
      go_upto_region 24 with (((with_reducible refine (HRO).mono ?_); rintro z w8 ⟨gl8, A8, c8, us, rfl, hrs, hm8, hus⟩))
      have hown8 := own_mod hown7 hm8 (fun i o ho _ hit e => hd7'.out.free ho hit (by decide) e)
      have hB8 := hB7.trans (mod2w hm8 (by omega) hwb hB7.size)
      clear HRO hm8 hown7 hB7
      have hown9 : OwnS w8 w.heap.size A1 n1 c1 ys := OwnS.of hown8 HYR.out hB8
      have hszz := hB8.size
      have HB := Lib.hid hB8
      clear hown8 hB8
      go_upto_region 26 with fail
      have HS := same07 _ _ _ _ us _ _ _ _ ys w8 hrs.rd (hown9.rd hszz)
      rw [decide_eq_true hus] at HS
      go_wp2_with (first | (((with_reducible refine (HS).mono ?_); rintro z v9 ⟨rfl, k9, rfl⟩)) | (((with_reducible refine ((awake7 _)).mono ?_); rintro z w9 ⟨rfl, hb9⟩)))
      go_ret
      exact ⟨rfl, chain (HB.out.trans (below_drewN (Below.refl _ _) _)) hb9⟩
end Go.Proofs.Ytmoijbknjadeeaa
