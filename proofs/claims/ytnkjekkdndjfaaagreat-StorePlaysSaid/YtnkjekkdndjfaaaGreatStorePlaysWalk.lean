
/- The law StorePlays: the Go function returns true, whatever is asked, compacted and lost. -/
import Derived.Test.YtnkjekkdndjfaaaGreatStoreR
import Derived.Test.YtnkjekkdndjfaaaGreatOpenOp11
import Derived.Test.YtnkjekkdndjfaaaGreatKvItems9
import Derived.Deep.CutBlock
import Derived.Deep.DeepCutAuto
namespace Go.Proofs.YtnkjekkdndjfaaaGreat
set_option linter.unusedVariables false
set_option linter.unusedSimpArgs false
open Go.RowKit
section
variable {w w' : World} {gs gd bd N gst bst Ns gl gt gr gq B n c : Nat} {A : Option Addr} {x y : ST}
/-- the document's store is turned: the program's stays -/
theorem IsX.doc (h : IsX w gs gd bd N gst bst Ns gl x) (hr : IsRT w gt gr gq B A n c y) (hm : Mod (MD gt gq gr) w w') : IsX w' gs gd bd N gst bst Ns gl x := by
  unfold IsX at h ⊢
  obtain ⟨A3, c3, e1, e2⟩ := IsRf.ex hr.v.dk
  have key : ∀ {g : Nat} {t : TypeId} {cs : List Value}, At w g t cs → t ≠ 81 → t ≠ 168 → t ≠ 86 → ¬ (g = gt ∨ g = gq ∨ g = gr) := fun hx h1 h2 h3 => hr.farT hx rfl h1 h2 h3
  have f1 := h.dk.freeAt hr.blk (by decide)
  have f2 := h.dk.freeAt hr.v.lg (by decide)
  have f3 := h.dk.freeAt e1 (by decide)
  have m1 := h.st.mp.ne_at hr.blk
  have m2 := h.st.mp.ne_at hr.v.lg
  have m3 := h.st.mp.ne_at e1
  refine ⟨hm.at h.blk (key h.blk (by decide) (by decide) (by decide)), h.dk.mods hm (fun o e => ?_) (fun o e => ?_) (fun i o ho hit => hr.farT ho hit (by decide) (by decide) (by decide)), h.st.mod hm (fun o => key h.st.at_ (by decide) (by decide) (by decide)) (fun o e => ?_), hm.at h.lg (key h.lg (by decide) (by decide) (by decide)), h.ne⟩
  · rcases e with e | e | e <;> omega
  · rcases e with e | e | e <;> omega
  · rcases e with e | e | e <;> omega
/-- the program's store is turned: the document's stays -/
theorem IsRT.prog (hr : IsRT w gt gr gq B A n c y) (h : IsX w gs gd bd N gst bst Ns gl x) (hm : Mod (M6 gs gd bd gst bst gl) w w') : IsRT w' gt gr gq B A n c y := by
  have hs : IsSto w gs gd bd N gst bst Ns gl x.d x.s x.sz x.ld x.ev x.since x.dead := h
  obtain ⟨A3, c3, e1, e2⟩ := IsRf.ex hr.v.dk
  exact ⟨hs.far hr.blk (by decide) (by decide) (by decide) (by decide) hm, own_mod (show World.ownsRow _ _ _ _ _ _ _ from hr.own) hm (fun i o ho _ hit => hs.farT ho hit (by decide) (by decide) (by decide) (by decide)),
    ⟨hs.far hr.v.lg (by decide) (by decide) (by decide) (by decide) hm, hr.v.dk.mods hm (fun o => hs.farT (o := .cells [Value.slice A3 y.d.fs.length c3, .bool y.d.lost, .int .i64 (rl y.d.armed y.d.left)].toArray 86) e1 rfl (by decide) (by decide) (by decide) (by decide)) (fun i o ho hit => hs.farT ho hit (by decide) (by decide) (by decide) (by decide))⟩⟩
theorem md_below (hm : Mod (MD gt gq gr) w w') (h1 : B ≤ gt) (h2 : B ≤ gq) (h3 : B ≤ gr) (hB : B ≤ w.heap.size) : Below B w w' :=
  hm.toBelow (fun i o hi e => by rcases e with e | e | e <;> omega) hB
theorem IsX.step (h : IsX w gs gd bd N gst bst Ns gl x) (hb : Below w.heap.size w w') : IsX w' gs gd bd N gst bst Ns gl x := IsSto.step h hb
theorem arm_inv {k m : Nat} (hi : STI x k m) (a : Int) (ha : a < 9223372036854775808) : STI { x with d := x.d.arm a } k m := ⟨hi.si, ok_arm hi.ok a ha, hi.sz, hi.sn, hi.ev⟩
/-- what a crash leaves is there, as it is -/
theorem dd_read {d : PD} {M K : Nat} (ho : d.Ok M K) (hl : d.lost = false) {x : Fi} (hx : x ∈ d.fs) : d.rc x.k = 0 ∧ d.rb x.k = x.b := by
  have hg := getF_mem ho.asc hx
  have hf : (findF d.fs x.k).isSome = true := by
    unfold findF
    rw [List.find?_isSome]
    exact ⟨x, hx, by simp⟩
  unfold PD.rc PD.rb rdCode rdBytes
  rw [hf, hl, hg]
  exact ⟨rfl, rfl⟩
end
set_option maxRecDepth 100000 in
set_option maxHeartbeats 16000000 in
theorem storePlays_walk {every : Int} {A : Option Addr} {n c : Nat} {L : List Op11} (w : World) (hr : Rd w w.heap.size 8 A n c (L.flatMap Op11.row)) (hf : ∀ o ∈ L, o.fits) :
    Calls Tryz.prog 7 #[.int .i64 every, .slice A n c] w fun x w' => x = .returned (.bool true) ∧ Below w.heap.size w w' := by
  have hln := Rd.count Op11.row_length (by omega) hr
  have hmax := hr.max
  have hle := hr.le
  unfold maxLen at hmax
  subst hln
  have HR := Lib.hid hr
  have HF := Lib.hid hf
  have HRN := fun v => rd_new v
  clear hr hf
  go_enter Tryz.func7, Tryz.ntmps7
  go_upto_region 2 with (first | (((with_reducible refine ((pd_new w)).mono ?_); rintro z w1 ⟨gd, bd, rfl, hd, hwb, hbg, hb1⟩)) | (((with_reducible refine ((HRN _)).mono ?_); rintro z w2 ⟨gr, rfl, hrf, hwr, hb2⟩)))
  have hB2 : Below w.heap.size w w2 := chain hb1 hb2
  have hwr2 : w.heap.size ≤ gr := Nat.le_trans hb1.size hwr
  have hd2 := hd.step hb2
  have hz2 := hB2.size
  obtain ⟨hs1, hs2⟩ := bs_none (d := PD.new) rfl
  have HO := sopen_new every w2 hd2 PD.Ok.new (by omega) (by omega) hs1 rfl
  rw [hs2] at HO
  unfold SOK at HO
  clear HRN hs1 hs2 hd hb1 hb2
  go_upto_region 3 with (((with_reducible refine (HO).mono ?_); rintro z w3 ⟨gs, gst, bst, Ns, gl, rfl, h, hNs, hg, hm3⟩))
  have hr3 := hrf.keep hd2 hm3
  have hB3 := hB2.trans (mod2s hm3 (by omega) hwb hB2.size)
  have hz3 := hB3.size
  have HN := rsnew_any every w3 hr3
  clear HO hrf hd2 hm3 hB2
  go_upto_region 4 with (((with_reducible refine (HN).mono ?_); rintro z w4 ⟨gt, gq, rfl, hr, hgt, hgq, hb4⟩))
  have hB := chain hB3 hb4
  replace h := h.step hb4
  have hg1 : w.heap.size ≤ gs ∧ w.heap.size ≤ gd ∧ w.heap.size ≤ bd ∧ w.heap.size ≤ gst ∧ w.heap.size ≤ bst ∧ w.heap.size ≤ gl := by omega
  have hg2 : w.heap.size ≤ gt ∧ w.heap.size ≤ gq ∧ w.heap.size ≤ gr := by omega
  have hown0 := own_lower (show World.ownsRow _ _ _ _ _ _ _ from hr.own) hz3
  have hr0 : IsRT w4 gt gr gq w.heap.size none 0 0 ⟨PD.new, ⟨0, []⟩, 0, false, max every 1, 0, false⟩ := ⟨hr.blk, hown0, hr.v⟩
  have HDD := sdead_any w4 h.blk
  have H0 := Lib.hid (show IsX w4 gs gd bd (8 * 0 + 1) gst bst (Ns + 0) gl ⟨PD.new, ⟨0, []⟩, 0, false, max every 1, 0, false⟩ from h)
  have HR0 := Lib.hid hr0
  have HB0 := Lib.hid hB
  clear h hr hr0 hown0 hB hB3 hb4 HN hg hgt hgq hr3
  go_wp2_with (((with_reducible refine (HDD).mono ?_); rintro z v ⟨rfl, rfl⟩))
  go_loopw [39] (fun i wr => ∃ (k : Nat) (x : ST) (A4 : Option Addr) (n4 c4 : Nat), i = .int .i64 (k : Int) ∧ k ≤ L.length ∧ k ≤ 30 ∧ IsX wr gs gd bd (8 * k + 1) gst bst (Ns + k) gl x ∧ IsRT wr gt gr gq w.heap.size A4 n4 c4 x ∧ STI x k (2 * k) ∧ Below w.heap.size w wr) (fun i _ => L.length - (intOf i).toNat)
  case atStart => exact ⟨0, ⟨PD.new, ⟨0, []⟩, 0, false, max every 1, 0, false⟩, none, 0, 0, rfl, Nat.zero_le _, by omega, H0.out, HR0.out, ⟨⟨Inv9.nil, (fun x hx => by cases hx), Nat.le_refl _⟩, PD.Ok.new, by simp only; omega, by simp only; omega, by simp only; omega⟩, HB0.out⟩
  case round =>
    clear H0 HR0 HB0 HDD
    obtain ⟨k, x, A4, n4, c4, rfl, hk, hk30, h, hr, hi, hB⟩ := hrel
    by_cases hlt : k < L.length
    · obtain ⟨ga, off, ee, hga, he⟩ := HR.out.elem Op11.row_length (by omega) (k := k) hlt
      subst ee
      have hbc := bcell (Below.mono (B := w.heap.size) hB (Nat.le_refl _))
      have e0 := (hbc.1 _ _ hga).trans (he 0 _ rfl)
      have e1 := (hbc.1 _ _ hga).trans (he 1 _ rfl)
      have e2 := (hbc.1 _ _ hga).trans (he 2 _ rfl)
      have e3 := (hbc.1 _ _ hga).trans (he 3 _ rfl)
      have e4 := (hbc.1 _ _ hga).trans (he 4 _ rfl)
      have e5 := (hbc.1 _ _ hga).trans (he 5 _ rfl)
      have e6 := (hbc.1 _ _ hga).trans (he 6 _ rfl)
      have e7 := (hbc.1 _ _ hga).trans (he 7 _ rfl)
      rw [Nat.add_zero] at e0
      have hfit := HF.out _ (List.getElem_mem hlt)
      clear he hbc
      generalize L[k] = oo at *
      obtain ⟨ki, o, nn⟩ := oo
      obtain ⟨hfo, hn1, hn2⟩ := hfit
      simp only at e0 e1 e2 e3 e4 e5 e6 e7 hfo hn1 hn2
      obtain ⟨h11, hb6⟩ := one_at wr 76 [.int .i64 ki, .int .i64 o.kind, .string o.key, .string o.val, .int .i64 o.rev, .string o.iff, .int .i64 o.ifrev, .int .i64 nn]
      replace h := h.step hb6
      replace hr := hr.step hb6
      replace hB := chain hB hb6
      go_upto_region 9 with fail
      clear e0 e1 e2 e3 e4 e5 e6 e7 hb6 hga
      generalize World.alloc _ _ = w2 at *
      generalize wr.heap.size = g11 at *
      by_cases hk30' : k < 30
      · have hdk : decide ((k : Int) ≥ 30) = false := decide_eq_false (by omega)
        obtain ⟨⟨x0, x1, x2, x3, x4, x5, x6, x7⟩, xf⟩ := at8 h11
        obtain ⟨N, hN⟩ : ∃ N, 8 * k + 1 = N := ⟨_, rfl⟩
        obtain ⟨Ns1, hNs1⟩ : ∃ N, Ns + k = N := ⟨_, rfl⟩
        rw [hN, hNs1] at h
        go_upto_block 2 with fail
        go_cut [] (fun wx => ∃ (y : ST) (A4 : Option Addr) (n4 c4 : Nat), IsX wx gs gd bd (8 * (k + 1) + 1) gst bst (Ns + (k + 1)) gl y ∧ IsRT wx gt gr gq w.heap.size A4 n4 c4 y ∧ STI y (k + 1) (2 * k + 2) ∧ Below w.heap.size w wx)
        case first =>
          have hkk : ki = 0 ∨ ki = 1 ∨ ki = 2 ∨ ki = 3 ∨ ki = 4 ∨ ki = 5 ∨ ki = 6 ∨ (ki ≠ 0 ∧ ki ≠ 1 ∧ ki ≠ 2 ∧ ki ≠ 3 ∧ ki ≠ 4 ∧ ki ≠ 5 ∧ ki ≠ 6) := by omega
          rcases hkk with rfl | rfl | rfl | rfl | rfl | rfl | rfl | hkk
          iterate 5 (
            · skip
              have hov : (cutA o).val.size ≤ 100 := cutS_size _ _
              have hokk : (cutA o).key.size ≤ maxLen := Nat.le_trans (show (cutA o).key.size ≤ 140 from cutS_size _ _) (by simp only [maxLen]; omega)
              have hoi : (cutA o).iff.size ≤ maxLen := hfo.2.2.2.2.1
              have HOU := fun v => ours9_any o v
              have HDO := fun v (h : IsX v gs gd bd N gst bst Ns1 gl x) => sdo_p (cutA o) v h hi (by omega) (by omega) (by omega) (by omega) hov hokk hoi
              have HRD := fun v (hv : w.heap.size ≤ v.heap.size) (h : IsRT v gt gr gq w.heap.size A4 n4 c4 x) => rsdo_any (cutA o) v hv h hi (by omega) (by omega) hov
              have hi2 := do_inv (o := cutA o) hi (by omega) hov
              generalize cutA o = p at *
              generalize doP11 x p = Y at *
              unfold DOg at HDO
              unfold RSD at HRD
              obtain ⟨⟨tc, tr, tv, ti⟩, y⟩ := Y
              obtain ⟨ki1, kk, vv, r, ii, jj⟩ := o
              obtain ⟨pki, pk, pv, pr, pi, pj⟩ := p
              unfold Ask.v Ask.cells at HOU HDO HRD
              simp only at HOU HDO HRD hi2
              clear hi hov hokk hoi hfo
              go_upto_region 17 with (((with_reducible refine ((HOU _)).mono ?_); rintro z w5 ⟨rfl, hb5⟩))
              obtain ⟨h16, h17, hb6⟩ := two_at w5 49 [.int .i64 pki, .string pk, .string pv, .int .i64 pr, .string pi, .int .i64 pj] 50 [.int .i64 pki, .string pk, .string pv, .int .i64 pr, .string pi, .int .i64 pj]
              replace h := (h.step hb5).step hb6
              replace hr := (hr.step hb5).step hb6
              replace hB := chain (chain hB hb5) hb6
              clear hb5 hb6 HOU x0 x1 x2 x3 x4 x5 x6 x7 xf h11
              generalize World.alloc (World.alloc w5 _) _ = w6 at *
              obtain ⟨g16, hg16⟩ : ∃ g16, w5.heap.size = g16 := ⟨_, rfl⟩
              rw [hg16] at h16 h17 ⊢
              clear hg16
              obtain ⟨⟨x0, x1, x2, x3, x4, x5⟩, xf⟩ := at6 h17
              have HRD1 := HRD _ hB.size hr
              go_upto_region 18 with (((with_reducible refine (HRD1).mono ?_); rintro z w7 ⟨A6, n6, c6, b6, A4, n4, c4, rfl, how6, hmR, hr7⟩))
              replace h := h.doc hr hmR
              replace h16 := hr.far h16 (by decide) (by decide) (by decide) hmR
              replace hB := hB.trans (md_below hmR hg2.1 hg2.2.1 hg2.2.2 hB.size)
              obtain ⟨h14, hb8⟩ := one_at w7 54 [.int .i64 tc, .int .i64 tr, .string tv, .slice A6 n6 c6]
              replace h := h.step hb8
              replace hr := hr7.step hb8
              replace h16 := h16.step hb8
              replace how6 := own_below (show World.ownsRow _ _ _ _ _ _ _ from how6) hb8
              replace hB := chain hB hb8
              clear hr7 hmR HRD HRD1 hb8 h17 x0 x1 x2 x3 x4 x5 xf
              generalize World.alloc w7 _ = w8 at *
              generalize w7.heap.size = g14 at *
              have k0 : ∀ w' : World, At w' g16 49 [.int .i64 pki, .string pk, .string pv, .int .i64 pr, .string pi, .int .i64 pj] ∧ At w' g14 54 [.int .i64 tc, .int .i64 tr, .string tv, .slice A6 n6 c6] → _ := fun w' h => (at6 h.1).1
              have k1 : ∀ w' : World, At w' g16 49 [.int .i64 pki, .string pk, .string pv, .int .i64 pr, .string pi, .int .i64 pj] ∧ At w' g14 54 [.int .i64 tc, .int .i64 tr, .string tv, .slice A6 n6 c6] → _ := fun w' h => (at4 h.2).1
              refine region_begin (fun w' : World => At w' g16 49 [.int .i64 pki, .string pk, .string pv, .int .i64 pr, .string pi, .int .i64 pj] ∧ At w' g14 54 [.int .i64 tc, .int .i64 tr, .string tv, .slice A6 n6 c6]) (by kernel_rfl) (⟨h16.drew, h14.drew⟩) (fun hHeld => ?_)
              replace h := h.step (Below.drew (Below.refl _ _))
              replace hr := hr.drew
              replace how6 := own_below how6 (Below.drew (Below.refl _ _))
              replace hB := chain hB (Below.drew (Below.refl _ _))
              clear h16 h14
              generalize World.drew _ = w9 at *
              refine tag [0,1,3] ?_
              iterate 3 (
                refine sH (v := ?_) rfl (by kernel_rfl) (fun _ _ _ h => h) (Or.inl ⟨by kernel_rfl, ?_⟩) (by assumption) ?_
                rotate_left
                · (intro wS hwS; (try dsimp only at hwS); go_simp; try (first | (with_reducible rfl) | rw [if_pos (by omega)] | rw [if_neg (by omega)]))
                try simp only [PT])
              refine tagN ?_
              refine region_one 2 (by kernel_rfl) rfl (fun K hK => ?_)
              go_simp
              refine (HDO _ h).mono ?_
              rintro z w10 ⟨A7, n7, c7, rfl, how7, hm6, h10⟩
              have hsx : IsSto w9 gs gd bd N gst bst Ns1 gl x.d x.s x.sz x.ld x.ev x.since x.dead := h
              replace hr := hr.prog h hm6
              replace how6 := own_mod how6 hm6 (fun i o ho _ hit => hsx.farT ho hit (by decide) (by decide) (by decide) (by decide))
              replace hB := hB.trans (m6_below hm6 hg1.1 hg1.2.1 hg1.2.2.1 hg1.2.2.2.1 hg1.2.2.2.2.1 hg1.2.2.2.2.2 hB.size)
              have h20 : At w10 g16 49 [.int .i64 pki, .string pk, .string pv, .int .i64 pr, .string pi, .int .i64 pj] ∧ At w10 g14 54 [.int .i64 tc, .int .i64 tr, .string tv, .slice A6 n6 c6] := ⟨hsx.far hHeld.1 (by decide) (by decide) (by decide) (by decide) hm6, hsx.far hHeld.2 (by decide) (by decide) (by decide) (by decide) hm6⟩
              clear hHeld HDO hsx hm6 h
              have h := h10
              clear h10
              refine hK.out _ _ (fun w' : World => At w' g16 49 [.int .i64 pki, .string pk, .string pv, .int .i64 pr, .string pi, .int .i64 pj] ∧ At w' g14 54 [.int .i64 tc, .int .i64 tr, .string tv, .slice A6 n6 c6]) (h20) (fun _ h => h) (fun hHeld => ?_)
              clear hK K
              try simp only [PT]
              clear h20
              refine region_one 4 (by kernel_rfl) rfl (fun K hK => ?_)
              go_simp
              refine (same9_any A7 A6 n7 c7 n6 c6 ti tc tr tv w10 how7.rd (Rd.of_own how6)).mono ?_
              rintro z w11 ⟨rfl, hb11⟩
              have h20 : At w11 g16 49 [.int .i64 pki, .string pk, .string pv, .int .i64 pr, .string pi, .int .i64 pj] ∧ At w11 g14 54 [.int .i64 tc, .int .i64 tr, .string tv, .slice A6 n6 c6] := ⟨hHeld.1.step hb11, hHeld.2.step hb11⟩
              clear hHeld
              refine hK.out _ _ (fun w' : World => At w' g16 49 [.int .i64 pki, .string pk, .string pv, .int .i64 pr, .string pi, .int .i64 pj] ∧ At w' g14 54 [.int .i64 tc, .int .i64 tr, .string tv, .slice A6 n6 c6]) (h20) (fun _ h => h) (fun hHeld => ?_)
              clear hK K
              try simp only [PT]
              clear h20
              refine tag [5] ?_
              refine sH (v := ?_) rfl (by kernel_rfl) (fun _ _ _ h => h) (Or.inl ⟨by kernel_rfl, ?_⟩) (by assumption) ?_
              rotate_left
              · (intro wS hwS; (try dsimp only at hwS); go_simp; try (first | (with_reducible rfl) | rw [if_pos (by omega)] | rw [if_neg (by omega)]))
              try simp only [PT]
              refine tagN ?_
              refine wpAnyH_done (by kernel_rfl) ?_ _
              replace h := h.step hb11
              replace hr := hr.step hb11
              replace hB := chain hB hb11
              clear hHeld k0 k1 hb11 how6 how7
              replace h := IsSto.more h (show N + 8 ≤ 8 * (k + 1) + 1 by omega) (show Ns1 + 1 ≤ Ns + (k + 1) by omega)
              have H1 := Lib.hid h
              have HR1 := Lib.hid hr
              have HI1 := Lib.hid hi2
              have HB1 := Lib.hid hB
              clear h hr hi2 hB
              go_wp2_with fail
              go_meet
              case rel => exact ⟨y, A4, n4, c4, H1.out, HR1.out, HI1.out, HB1.out⟩
              )
          · skip
            have HCA := scm_any w2 h hi (by omega) (by omega) (by omega) (by omega)
            have HCB := fun v (hv : IsRT v gt gr gq w.heap.size A4 n4 c4 x) => rscm_any v hv hi (by omega) (by omega)
            have hi2 := (cm_inv hi (by omega)).more (show k ≤ k + 1 by omega) (show 2 * k + 1 ≤ 2 * k + 2 by omega)
            generalize cmP x = Y at *
            obtain ⟨c0, y⟩ := Y
            simp only at HCA HCB hi2
            clear hi
            go_upto_region 9999 with (first | (((with_reducible refine (HCA).mono ?_); rintro z w3 ⟨rfl, hm6, h3⟩)) | (((with_reducible refine ((HCB w3 (hr.prog h hm6))).mono ?_); rintro z w4 ⟨rfl, hmR, hr4⟩)))
            have hr3 := hr.prog h hm6
            have hB3 := hB.trans (m6_below hm6 hg1.1 hg1.2.1 hg1.2.2.1 hg1.2.2.2.1 hg1.2.2.2.2.1 hg1.2.2.2.2.2 hB.size)
            have h4 := IsX.doc h3 hr3 hmR
            replace hB := hB3.trans (md_below hmR hg2.1 hg2.2.1 hg2.2.2 hB3.size)
            clear h hr x0 x1 x2 x3 x4 x5 x6 x7 xf h11 hr3 hB3 h3 hm6 hmR HCA HCB hfo
            have h := IsSto.more h4 (show N + 6 ≤ 8 * (k + 1) + 1 by omega) (show Ns1 ≤ Ns + (k + 1) by omega)
            have hr := hr4
            clear h4 hr4
            have H1 := Lib.hid h
            have HR1 := Lib.hid hr
            have HI1 := Lib.hid hi2
            have HB1 := Lib.hid hB
            clear h hr hi2 hB
            go_wp2_with fail
            go_meet
            case rel => exact ⟨y, A4, n4, c4, H1.out, HR1.out, HI1.out, HB1.out⟩
          · skip
            obtain ⟨d, s, sz, ld, ev, since, dead⟩ := x
            have HAR := pd_arm nn hn2 w2 h.dk
            have HAQ := fun v (hv : IsR v gr d) => rd_arm nn v hv
            have hi2 := (arm_inv hi nn hn2).more (show k ≤ k + 1 by omega) (show 2 * k ≤ 2 * k + 2 by omega)
            clear hi
            go_upto_region 25 with (((with_reducible refine (HAR).mono ?_); rintro z w3 ⟨rfl, hm7, hd7⟩))
            have hm6 : Mod (M6 gs gd bd gst bst gl) w2 w3 := hm7.mono (fun i o _ _ e => by
              rcases e with e | e
              · exact .inr (.inr (.inl e))
              · exact .inr (.inr (.inr (.inl e))))
            have hr3 := hr.prog h hm6
            have hs3 : IsSto w3 gs gd bd N gst bst Ns1 gl (d.arm nn) s sz ld ev since dead := IsSto.disk h hm7 hd7
            have h11' := IsSto.far h h11 (by decide) (by decide) (by decide) (by decide) hm6
            have hB3 := hB.trans (m6_below hm6 hg1.1 hg1.2.1 hg1.2.2.1 hg1.2.2.2.1 hg1.2.2.2.2.1 hg1.2.2.2.2.2 hB.size)
            clear x0 x1 x2 x3 x4 x5 x6 x7 xf h11 HAR h hr hm7 hd7 hm6 hB
            obtain ⟨⟨x0, x1, x2, x3, x4, x5, x6, x7⟩, xf⟩ := at8 h11'
            go_upto_region 9999 with (((with_reducible refine ((HAQ w3 hr3.v.dk)).mono ?_); rintro z w4 ⟨rfl, hm8, hd8⟩))
            have hr := hr3.log (mdr (gq := gq) hm8) (show IsV w4 gq gr logN ⟨d.arm nn, sz, ld⟩ from ⟨rlg_keep hr3.v.lg hr3.v.dk hm8, hd8⟩)
            have h := IsSto.more (IsX.doc (x := ⟨d.arm nn, s, sz, ld, ev, since, dead⟩) hs3 hr3 (mdq (mdr hm8))) (show N ≤ 8 * (k + 1) + 1 by omega) (show Ns1 ≤ Ns + (k + 1) by omega)
            have hB := hB3.trans (below_mod hm8 (fun i o hi e => by omega) hB3.size)
            clear x0 x1 x2 x3 x4 x5 x6 x7 xf h11' hs3 hr3 hm8 hd8 hB3 HAQ hfo
            obtain ⟨y, hy⟩ : ∃ y, ST.mk (d.arm nn) s sz ld ev since dead = y := ⟨_, rfl⟩
            replace hr : IsRT w4 gt gr gq w.heap.size A4 n4 c4 y := by rw [← hy]; exact hr
            replace h : IsX w4 gs gd bd (8 * (k + 1) + 1) gst bst (Ns + (k + 1)) gl y := by rw [← hy]; exact h
            replace hi2 : STI y (k + 1) (2 * k + 2) := by rw [← hy]; exact hi2
            clear hy
            have H1 := Lib.hid h
            have HR1 := Lib.hid hr
            have HI1 := Lib.hid hi2
            have HB1 := Lib.hid hB
            clear h hr hi2 hB
            go_wp2_with fail
            go_meet
            case rel => exact ⟨y, A4, n4, c4, H1.out, HR1.out, HI1.out, HB1.out⟩
          · skip
            obtain ⟨b0, b1, b2, b3, b4, b5, b6⟩ := hkk
            have b0 : (ki == 0) = false := by simpa using b0
            have b1 : (ki == 1) = false := by simpa using b1
            have b2 : (ki == 2) = false := by simpa using b2
            have b3 : (ki == 3) = false := by simpa using b3
            have b4 : (ki == 4) = false := by simpa using b4
            have b5 : (ki == 5) = false := by simpa using b5
            have b6 : (ki == 6) = false := by simpa using b6
            have hi2 := hi.more (show k ≤ k + 1 by omega) (show 2 * k ≤ 2 * k + 2 by omega)
            clear hi
            replace h := IsSto.more h (show N ≤ 8 * (k + 1) + 1 by omega) (show Ns1 ≤ Ns + (k + 1) by omega)
            obtain ⟨y, rfl⟩ : ∃ y, y = x := ⟨x, rfl⟩
            have H1 := Lib.hid h
            have HR1 := Lib.hid hr
            have HI1 := Lib.hid hi2
            have HB1 := Lib.hid hB
            clear h hr hi2 hB
            go_wp2_with fail
            go_meet
            case rel => exact ⟨y, A4, n4, c4, H1.out, HR1.out, HI1.out, HB1.out⟩
        case rest =>
          obtain ⟨y, A4, n4, c4, h, hr, hi2, hB⟩ := hcut
          clear hi x0 x1 x2 x3 x4 x5 x6 x7 xf h11 hfo
          go_upto_region 26 with fail
          clear hN hNs1 hdk
          obtain ⟨d, s, sz, ld, ev, since, dead⟩ := y
          replace h : IsSto _ gs gd bd (8 * (k + 1) + 1) gst bst (Ns + (k + 1)) gl d s sz ld ev since dead := h
          have hks := hi2.si.ks
          refine region_any (by kernel_rfl) ?_
          change wpAny _ _ _ _ _ _ _ (World.drew _)
          replace h := h.drew
          replace hr := hr.drew
          replace hB := chain hB (Below.drew (Below.refl _ _))
          generalize World.drew _ = v1 at *
          obtain ⟨A6, c6, h6, _⟩ := IsRf.ex hr.v.dk
          obtain ⟨⟨x0, x1, x2, x3, x4, x5, x6⟩, xf⟩ := at7 hr.blk
          obtain ⟨⟨y0, y1, y2⟩, yf⟩ := at3 h6
          have l1 := hr.blk.lt
          have l6 := h6.lt
          simp only at x0 x1 x2 x3 x4 x5 x6
          refine stage 100000 ?_
          refine tag [0,2,3,4,5] ?_
          iterate 5 (
            refine sR (v := ?_) rfl (by kernel_rfl) (fun _ _ _ h => h) (Or.inl ⟨by kernel_rfl, ?_⟩) ?_
            rotate_left
            · (intro wS hwS; obtain ⟨hcS, hfS, hhS⟩ := bcell hwS; go_simp; try (first | (with_reducible rfl) | rw [if_pos (by omega)] | rw [if_neg (by omega)]))
            try simp only [PT])
          refine tagN ?_
          refine stage_one 1 (by kernel_rfl) rfl (by kernel_rfl) (fun K hK => ?_)
          go_simp
          refine (sdead_any _ h.blk).mono ?_
          rintro z v2 ⟨rfl, rfl⟩
          refine hK.out _ _ ((Below.refl _ _)) ?_
          clear hK K
          try simp only [PT]
          refine tag [6,7,8,10,11,12,13,14] ?_
          iterate 8 (
            refine sR (v := ?_) rfl (by kernel_rfl) (fun _ _ _ h => h) (Or.inl ⟨by kernel_rfl, ?_⟩) ?_
            rotate_left
            · (intro wS hwS; obtain ⟨hcS, hfS, hhS⟩ := bcell hwS; go_simp; try (first | (with_reducible rfl) | rw [if_pos (by omega)] | rw [if_neg (by omega)]))
            try simp only [PT])
          refine tagN ?_
          refine stage_one 9 (by kernel_rfl) rfl (by kernel_rfl) (fun K hK => ?_)
          go_simp
          refine (srev_any _ h.blk h.st).mono ?_
          rintro z v3 ⟨rfl, rfl⟩
          refine hK.out _ _ ((Below.refl _ _)) ?_
          clear hK K
          try simp only [PT]
          refine tag [15,16,17,18,20,21,22,23,24] ?_
          iterate 9 (
            refine sR (v := ?_) rfl (by kernel_rfl) (fun _ _ _ h => h) (Or.inl ⟨by kernel_rfl, ?_⟩) ?_
            rotate_left
            · (intro wS hwS; obtain ⟨hcS, hfS, hhS⟩ := bcell hwS; go_simp; try (first | (with_reducible rfl) | rw [if_pos (by omega)] | rw [if_neg (by omega)]))
            try simp only [PT])
          refine tagN ?_
          refine stage_one 19 (by kernel_rfl) rfl (by kernel_rfl) (fun K hK => ?_)
          go_simp
          refine (sall_any _ h.blk h.st (by omega) hks.sizes).mono ?_
          rintro z v4 ⟨A7, n7, c7, rfl, hown7, hb7⟩
          refine hK.out _ _ (hb7) ?_
          clear hK K
          try simp only [PT]
          clear x0 x1 x2 x3 x4 x5 x6 xf y0 y1 y2 yf
          replace h := h.step hb7
          replace hr := hr.step hb7
          replace h6 := At.step h6 hb7
          replace hB := chain hB hb7
          obtain ⟨⟨x0, x1, x2, x3, x4, x5, x6⟩, xf⟩ := at7 hr.blk
          obtain ⟨⟨y0, y1, y2⟩, yf⟩ := at3 h6
          simp only at x0 x1 x2 x3 x4 x5 x6
          replace l1 := hr.blk.lt
          replace l6 := h6.lt

          refine stage_one 25 (by kernel_rfl) rfl (by kernel_rfl) (fun K hK => ?_)
          go_simp
          refine (sitems_any A7 A4 n7 c7 n4 c4 s.l _ hown7.rd hr.own.rd).mono ?_
          rintro z v5 ⟨rfl, hb9⟩
          refine hK.out _ _ (hb9) ?_
          clear hK K
          try simp only [PT]
          clear x0 x1 x2 x3 x4 x5 x6 xf y0 y1 y2 yf
          replace h := h.step hb9
          replace hr := hr.step hb9
          replace h6 := At.step h6 hb9
          replace hB := chain hB hb9
          obtain ⟨⟨x0, x1, x2, x3, x4, x5, x6⟩, xf⟩ := at7 hr.blk
          obtain ⟨⟨y0, y1, y2⟩, yf⟩ := at3 h6
          simp only at x0 x1 x2 x3 x4 x5 x6
          replace l1 := hr.blk.lt
          replace l6 := h6.lt
          refine tag [26,27,28,29,31,32,33,34] ?_
          iterate 8 (
            refine sR (v := ?_) rfl (by kernel_rfl) (fun _ _ _ h => h) (Or.inl ⟨by kernel_rfl, ?_⟩) ?_
            rotate_left
            · (intro wS hwS; obtain ⟨hcS, hfS, hhS⟩ := bcell hwS; go_simp; try (first | (with_reducible rfl) | rw [if_pos (by omega)] | rw [if_neg (by omega)]))
            try simp only [PT])
          refine tagN ?_
          refine stage_one 30 (by kernel_rfl) rfl (by kernel_rfl) (fun K hK => ?_)
          go_simp
          refine (slog_any _ h.blk).mono ?_
          rintro z v6 ⟨rfl, rfl⟩
          refine hK.out _ _ ((Below.refl _ _)) ?_
          clear hK K
          try simp only [PT]
          refine tag [35,36,37,38,41,42,43,44,45] ?_
          iterate 9 (
            refine sR (v := ?_) rfl (by kernel_rfl) (fun _ _ _ h => h) (Or.inl ⟨by kernel_rfl, ?_⟩) ?_
            rotate_left
            · (intro wS hwS; obtain ⟨hcS, hfS, hhS⟩ := bcell hwS; go_simp; try (first | (with_reducible rfl) | rw [if_pos (by omega)] | rw [if_neg (by omega)]))
            try simp only [PT])
          refine tagN ?_
          refine stage_one 39 (by kernel_rfl) rfl (by kernel_rfl) (fun K hK => ?_)
          go_simp
          refine (pd_names _ h.dk (by omega)).mono ?_
          rintro z v7 ⟨A8, c8, rfl, _, hb10⟩
          refine hK.out _ _ (hb10) ?_
          clear hK K
          try simp only [PT]
          clear x0 x1 x2 x3 x4 x5 x6 xf y0 y1 y2 yf
          replace h := h.step hb10
          replace hr := hr.step hb10
          replace h6 := At.step h6 hb10
          replace hB := chain hB hb10
          obtain ⟨⟨x0, x1, x2, x3, x4, x5, x6⟩, xf⟩ := at7 hr.blk
          obtain ⟨⟨y0, y1, y2⟩, yf⟩ := at3 h6
          simp only at x0 x1 x2 x3 x4 x5 x6
          replace l1 := hr.blk.lt
          replace l6 := h6.lt
          refine tag [40,46,47] ?_
          iterate 3 (
            refine sR (v := ?_) rfl (by kernel_rfl) (fun _ _ _ h => h) (Or.inl ⟨by kernel_rfl, ?_⟩) ?_
            rotate_left
            · (intro wS hwS; obtain ⟨hcS, hfS, hhS⟩ := bcell hwS; go_simp; try (first | (with_reducible rfl) | rw [if_pos (by omega)] | rw [if_neg (by omega)]))
            try simp only [PT])
          refine tagN ?_
          first | refine wpAnyT_done (by kernel_rfl) ?_ _ | refine wpAny_done (by kernel_rfl) ?_ _
          have H1 := Lib.hid h
          have HR1 := Lib.hid hr
          have HI1 := Lib.hid hi2
          have HB1 := Lib.hid hB
          clear h hr hi2 hB h6 x0 x1 x2 x3 x4 x5 x6 xf y0 y1 y2 yf hown7 hb7 hb9 hb10 hks
          go_wp2_with fail
          go_roundw
          case rel => exact ⟨k + 1, ⟨d, s, sz, ld, ev, since, dead⟩, A4, n4, c4, by go_num, by omega, by omega, H1.out, HR1.out, HI1.out, HB1.out⟩
          case measure => simp [intOf]; omega
      · have hdk : decide ((k : Int) ≥ 30) = true := decide_eq_true (by omega)
        obtain ⟨d, s, sz, ld, ev, since, dead⟩ := x
        have hok := hi.ok
        simp only at hok
        have hnil : ∀ v : World, RdK v v.heap.size none 0 0 [] := fun v => Rd.of_own (World.ownsRow_nil _ 0 119 1)
        have HCR := pd_crash none 0 0 [] w2 h.dk hok (by omega) (by omega) (by omega) (fun v hm => hnil v) (fun v hm => by cases hm)
        go_upto_region 30 with (((with_reducible refine (HCR).mono ?_); rintro z w20 ⟨rfl, hm20, hd20⟩))
        have hr20 := hr.v.dk.keep h.dk hm20
        have hB20 := hB.trans (mod2s hm20 hg1.2.1 hg1.2.2.1 hB.size)
        have HCQ := rd_crash none 0 0 [] w20 hr20 hok (by omega) (by omega) (hnil _) (fun v hm => by cases hm)
        clear h hr hB hm20 HCR hi
        go_upto_region 31 with (((with_reducible refine (HCQ).mono ?_); rintro z w21 ⟨rfl, hm21, hr21⟩))
        have hd21 := hd20.keep hr20 hm21
        have hB21 := hB20.trans (below_mod hm21 (fun i o hi e => by omega) hB20.size)
        have hokd := ok_crash hok []
        have hld : (d.crash []).lost = false := rfl
        clear hr20 hd20 hB20 HCQ hm21 hok
        generalize d.crash [] = dd at *
        obtain ⟨A6, c6, h6, how6⟩ := IsRf.ex hr21
        have HR6 := Lib.hid (Rd.of_own (show World.ownsRow _ _ _ _ _ _ _ from how6))
        have HD6 := Lib.hid hd21
        have HB6 := Lib.hid hB21
        have HX6 := Lib.hid (show ∀ x ∈ dd.fs, (dd.rc x.k = 0 ∧ dd.rb x.k = x.b) ∧ x.k.size ≤ maxLen from fun x hx => ⟨dd_read hokd hld hx, (hokd.sm x hx).2⟩)
        have HO6 := Lib.hid hokd
        obtain ⟨⟨x0, x1, x2⟩, xf⟩ := at3 h6
        clear hd21 hB21 hokd hld hr21 how6 h6
        go_wp2_with fail
        clear x0 x1 x2 xf
        go_loopw [147] (fun i wr => ∃ k2 : Nat, i = .int .i64 (k2 : Int) ∧ k2 ≤ dd.fs.length ∧ Below w21.heap.size w21 wr) (fun i _ => dd.fs.length - (intOf i).toNat)
        case atStart => exact ⟨0, rfl, Nat.zero_le _, Below.refl _ _⟩
        case round =>
          obtain ⟨k2, rfl, hk2, hb⟩ := hrel
          have hsz2 := hb.size
          have hmx6 := HR6.out.max
          have hle6 := HR6.out.le
          unfold maxLen at hmx6
          by_cases hlt2 : k2 < dd.fs.length
          · obtain ⟨gs6, off6, e6, hg6, he6⟩ := HR6.out.elem Fi.row_length (by omega) (k := k2) hlt2
            subst e6
            have hbc6 := bcell (Below.mono (B := w21.heap.size) hb (Nat.le_refl _))
            have f0 := (hbc6.1 _ _ hg6).trans (he6 0 _ rfl)
            have f1 := (hbc6.1 _ _ hg6).trans (he6 1 _ rfl)
            have f2 := (hbc6.1 _ _ hg6).trans (he6 2 _ rfl)
            rw [Nat.add_zero] at f0
            obtain ⟨⟨hrc, hrb⟩, hkm⟩ := HX6.out _ (List.getElem_mem hlt2)
            have hd := HD6.out.step hb
            have HB7 := Lib.hid (HB6.out.trans (hb.mono HB6.out.size))
            have HBW := Lib.hid hb
            clear he6 hbc6 hb hg6
            generalize dd.fs[k2] = yf at *
            obtain ⟨yk, yb, yA, yn, yc, ys⟩ := yf
            simp only at f0 f1 f2 hrc hrb hkm
            obtain ⟨fB, hfB⟩ : ∃ fB : ByteArray, ⟨yb.toArray⟩ = fB := ⟨_, rfl⟩
            rw [hfB] at f1
            go_upto_region 34 with fail
            obtain ⟨h7, hb2⟩ := one_at wr 88 [.string yk, .string fB, .int .i64 ys]
            replace hd := hd.step hb2
            have HB7 := Lib.hid (HB7.out.trans (hb2.mono HB7.out.size))
            have HBW := Lib.hid (chain HBW.out hb2)
            clear f0 f1 f2 hb2
            generalize World.alloc _ _ = w7 at *
            generalize wr.heap.size = g7 at *
            obtain ⟨⟨z0, z1, z2⟩, zf⟩ := at3 h7
            have HRD := pd_rd yk hkm w7 hd HO6.out (by omega)
            rw [hrc, hrb] at HRD
            go_upto_region 35 with (((with_reducible refine (HRD).mono ?_); rintro z w8 ⟨A8, n8, c8, rfl, hown8, hb8⟩))
            have hrd := hown8.rd
            have hcv := conv_str hrd
            rw [hfB] at hcv
            replace h7 := h7.step hb8
            have HB7 := Lib.hid (HB7.out.trans (hb8.mono HB7.out.size))
            have HBW := Lib.hid (chain HBW.out hb8)
            clear HRD hown8 hb8 z0 z1 z2 zf hd hrd
            obtain ⟨⟨z0, z1, z2⟩, zf⟩ := at3 h7
            go_wp2_with fail
            go_roundw
            case rel => exact ⟨k2 + 1, by go_num, by omega, HBW.out⟩
            case measure => simp [intOf]; omega
          · have HB2 := Lib.hid (HB6.out.trans (hb.mono HB6.out.size))
            clear hb
            go_wp2_with (((with_reducible refine ((awake11 _)).mono ?_); rintro z w9 ⟨rfl, hb9⟩))
            go_ret
            exact ⟨rfl, HB2.out.trans (hb9.mono HB2.out.size)⟩
    · skip
      obtain ⟨d, s, sz, ld, ev, since, dead⟩ := x
      have hok := hi.ok
      simp only at hok
      have hnil : ∀ v : World, RdK v v.heap.size none 0 0 [] := fun v => Rd.of_own (World.ownsRow_nil _ 0 119 1)
      have HCR := pd_crash none 0 0 [] wr h.dk hok (by omega) (by omega) (by omega) (fun v hm => hnil v) (fun v hm => by cases hm)
      go_upto_region 30 with (((with_reducible refine (HCR).mono ?_); rintro z w20 ⟨rfl, hm20, hd20⟩))
      have hr20 := hr.v.dk.keep h.dk hm20
      have hB20 := hB.trans (mod2s hm20 hg1.2.1 hg1.2.2.1 hB.size)
      have HCQ := rd_crash none 0 0 [] w20 hr20 hok (by omega) (by omega) (hnil _) (fun v hm => by cases hm)
      clear h hr hB hm20 HCR hi
      go_upto_region 31 with (((with_reducible refine (HCQ).mono ?_); rintro z w21 ⟨rfl, hm21, hr21⟩))
      have hd21 := hd20.keep hr20 hm21
      have hB21 := hB20.trans (below_mod hm21 (fun i o hi e => by omega) hB20.size)
      have hokd := ok_crash hok []
      have hld : (d.crash []).lost = false := rfl
      clear hr20 hd20 hB20 HCQ hm21 hok
      generalize d.crash [] = dd at *
      obtain ⟨A6, c6, h6, how6⟩ := IsRf.ex hr21
      have HR6 := Lib.hid (Rd.of_own (show World.ownsRow _ _ _ _ _ _ _ from how6))
      have HD6 := Lib.hid hd21
      have HB6 := Lib.hid hB21
      have HX6 := Lib.hid (show ∀ x ∈ dd.fs, (dd.rc x.k = 0 ∧ dd.rb x.k = x.b) ∧ x.k.size ≤ maxLen from fun x hx => ⟨dd_read hokd hld hx, (hokd.sm x hx).2⟩)
      have HO6 := Lib.hid hokd
      obtain ⟨⟨x0, x1, x2⟩, xf⟩ := at3 h6
      clear hd21 hB21 hokd hld hr21 how6 h6
      go_wp2_with fail
      clear x0 x1 x2 xf
      go_loopw [147] (fun i wr => ∃ k2 : Nat, i = .int .i64 (k2 : Int) ∧ k2 ≤ dd.fs.length ∧ Below w21.heap.size w21 wr) (fun i _ => dd.fs.length - (intOf i).toNat)
      case atStart => exact ⟨0, rfl, Nat.zero_le _, Below.refl _ _⟩
      case round =>
        obtain ⟨k2, rfl, hk2, hb⟩ := hrel
        have hsz2 := hb.size
        have hmx6 := HR6.out.max
        have hle6 := HR6.out.le
        unfold maxLen at hmx6
        by_cases hlt2 : k2 < dd.fs.length
        · obtain ⟨gs6, off6, e6, hg6, he6⟩ := HR6.out.elem Fi.row_length (by omega) (k := k2) hlt2
          subst e6
          have hbc6 := bcell (Below.mono (B := w21.heap.size) hb (Nat.le_refl _))
          have f0 := (hbc6.1 _ _ hg6).trans (he6 0 _ rfl)
          have f1 := (hbc6.1 _ _ hg6).trans (he6 1 _ rfl)
          have f2 := (hbc6.1 _ _ hg6).trans (he6 2 _ rfl)
          rw [Nat.add_zero] at f0
          obtain ⟨⟨hrc, hrb⟩, hkm⟩ := HX6.out _ (List.getElem_mem hlt2)
          have hd := HD6.out.step hb
          have HB7 := Lib.hid (HB6.out.trans (hb.mono HB6.out.size))
          have HBW := Lib.hid hb
          clear he6 hbc6 hb hg6
          generalize dd.fs[k2] = yf at *
          obtain ⟨yk, yb, yA, yn, yc, ys⟩ := yf
          simp only at f0 f1 f2 hrc hrb hkm
          obtain ⟨fB, hfB⟩ : ∃ fB : ByteArray, ⟨yb.toArray⟩ = fB := ⟨_, rfl⟩
          rw [hfB] at f1
          go_upto_region 34 with fail
          obtain ⟨h7, hb2⟩ := one_at wr 88 [.string yk, .string fB, .int .i64 ys]
          replace hd := hd.step hb2
          have HB7 := Lib.hid (HB7.out.trans (hb2.mono HB7.out.size))
          have HBW := Lib.hid (chain HBW.out hb2)
          clear f0 f1 f2 hb2
          generalize World.alloc _ _ = w7 at *
          generalize wr.heap.size = g7 at *
          obtain ⟨⟨z0, z1, z2⟩, zf⟩ := at3 h7
          have HRD := pd_rd yk hkm w7 hd HO6.out (by omega)
          rw [hrc, hrb] at HRD
          go_upto_region 35 with (((with_reducible refine (HRD).mono ?_); rintro z w8 ⟨A8, n8, c8, rfl, hown8, hb8⟩))
          have hrd := hown8.rd
          have hcv := conv_str hrd
          rw [hfB] at hcv
          replace h7 := h7.step hb8
          have HB7 := Lib.hid (HB7.out.trans (hb8.mono HB7.out.size))
          have HBW := Lib.hid (chain HBW.out hb8)
          clear HRD hown8 hb8 z0 z1 z2 zf hd hrd
          obtain ⟨⟨z0, z1, z2⟩, zf⟩ := at3 h7
          go_wp2_with fail
          go_roundw
          case rel => exact ⟨k2 + 1, by go_num, by omega, HBW.out⟩
          case measure => simp [intOf]; omega
        · have HB2 := Lib.hid (HB6.out.trans (hb.mono HB6.out.size))
          clear hb
          go_wp2_with (((with_reducible refine ((awake11 _)).mono ?_); rintro z w9 ⟨rfl, hb9⟩))
          go_ret
          exact ⟨rfl, HB2.out.trans (hb9.mono HB2.out.size)⟩
end Go.Proofs.YtnkjekkdndjfaaaGreat
