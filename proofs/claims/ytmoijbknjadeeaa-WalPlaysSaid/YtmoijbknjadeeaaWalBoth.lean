
/- Chapter 7: both logs side by side: opened anew. -/
import Derived.Test.YtmoijbknjadeeaaWalRef
import Derived.Test.YtmoijbknjadeeaaWalAwake
import Derived.Test.YtmoijbknjadeeaaWalSame
import Derived.Test.YtmoijbknjadeeaaWalCut
namespace Go.Proofs.Ytmoijbknjadeeaa
set_option linter.unusedVariables false
set_option linter.unusedSimpArgs false
open Go.RowKit
theorem allR_ex : ∀ (n : Nat) (b : List UInt8), b.length ≤ n → ∃ rs a e, AllR b rs a e := by
  intro n
  induction n with
  | zero =>
    intro b hb
    refine ⟨[], 0, 6, AllR.stop b 6 ?_ (by decide)⟩
    unfold nextF
    rw [if_pos (by omega)]
  | succ n ih =>
    intro b hb
    by_cases h : (nextF b).1 = 0
    · have h2 := next_zero b h
      have h3 := next_le b
      obtain ⟨rs, a, e, hr⟩ := ih (b.drop (nextF b).2.2) (by rw [List.length_drop]; omega)
      refine ⟨(nextF b).2.1 :: rs, (nextF b).2.2 + a, e, AllR.step b _ _ rs a e ?_ hr⟩
      rw [← h]
    · exact ⟨[], 0, _, AllR.stop b _ rfl h⟩
theorem IsD.mods {w w' : World} {gd bd N : Nat} {d : PD} {M : Nat → Obj → Prop} (h : IsD w gd bd N d) (hm : Mod M w w') (h1 : ∀ o, ¬ M gd o) (h2 : ∀ o, ¬ M bd o) (h3 : ∀ i o, w.heap[i]? = some o → IsT 5 o → ¬ M i o) : IsD w' gd bd N d := by
  obtain ⟨l, e1, e2⟩ := h
  exact ⟨l, e1, hm.at e2.at_ (h1 _), e2.mp.mod hm (fun _ _ => h2 _), fun x hq => ⟨own_mod (show World.ownsRow _ _ _ _ _ _ _ from (e2.own x hq).1) hm (fun i o ho _ hit e => h3 i o ho hit e), (e2.own x hq).2⟩, e2.ne, e2.left0⟩
theorem IsR.mods {w w' : World} {gr : Nat} {d : PD} {M : Nat → Obj → Prop} (h : IsR w gr d) (hm : Mod M w w') (h1 : ∀ o, ¬ M gr o) (h3 : ∀ i o, w.heap[i]? = some o → IsT 52 o → ¬ M i o) : IsR w' gr d := by
  obtain ⟨A, c, e1, e2⟩ := IsRf.ex h
  exact ⟨A, c, hm.at e1 (h1 _), own_mod e2 hm (fun i o ho _ hit e => h3 i o ho hit e)⟩
structure BD (w : World) (B gb gd bd gr N : Nat) (d : PD) (L R : Option Addr) : Prop where
  bt : At w gb 72 [.pointer (some ⟨gd, 0, none⟩), .pointer L, .pointer (some ⟨gr, 0, none⟩), .pointer R]
  dk : IsD w gd bd N d
  rf : IsR w gr d
  lo : B ≤ gb ∧ B ≤ gd ∧ B ≤ bd ∧ B ≤ gr
  hw : B ≤ w.heap.size
structure BB (w : World) (B gb gd bd gr N gl gq : Nat) (s : WL) : Prop where
  bd : BD w B gb gd bd gr N s.d (some ⟨gl, 0, none⟩) (some ⟨gq, 0, none⟩)
  lg : IsLg w gl gd wF s.sz s.dead
  rl : IsRl w gq gr wF (if s.dead then 0 else s.sz) s.dead
  lo : B ≤ gl ∧ B ≤ gq
section
variable {w w' : World} {B gb gd bd gr N gl gq M K : Nat} {d : PD} {s : WL} {L R : Option Addr}
theorem BD.step (h : BD w B gb gd bd gr N d L R) (hb : Below w.heap.size w w') : BD w' B gb gd bd gr N d L R := ⟨h.bt.step hb, h.dk.step hb, h.rf.step hb, h.lo, Nat.le_trans h.hw hb.size⟩
theorem BD.drew (h : BD w B gb gd bd gr N d L R) : BD w.drew B gb gd bd gr N d L R := ⟨At.drew h.bt, h.dk.drew, h.rf.drew, h.lo, h.hw⟩
theorem BD.more {N' : Nat} (h : BD w B gb gd bd gr N d L R) (hN : N ≤ N') : BD w B gb gd bd gr N' d L R := ⟨h.bt, h.dk.more hN, h.rf, h.lo, h.hw⟩
theorem BB.step (h : BB w B gb gd bd gr N gl gq s) (hb : Below w.heap.size w w') : BB w' B gb gd bd gr N gl gq s := ⟨h.bd.step hb, At.step h.lg hb, At.step h.rl hb, h.lo⟩
theorem BB.drew (h : BB w B gb gd bd gr N gl gq s) : BB w.drew B gb gd bd gr N gl gq s := ⟨h.bd.drew, At.drew h.lg, At.drew h.rl, h.lo⟩
theorem BB.more {N' : Nat} (h : BB w B gb gd bd gr N gl gq s) (hN : N ≤ N') : BB w B gb gd bd gr N' gl gq s := ⟨h.bd.more hN, h.lg, h.rl, h.lo⟩
/-- the program's disk is turned, then the document's -/
theorem BD.turn {w2 : World} {d' : PD} {N' : Nat} (h : BD w B gb gd bd gr N d L R) (hm : Mod (fun i _ => i = gd ∨ i = bd) w w') (hd : IsD w' gd bd N' d') (hm2 : Mod (fun i _ => i = gr) w' w2) (hr : IsR w2 gr d') :
    BD w2 B gb gd bd gr N' d' L R ∧ Below B w w2 ∧ (∀ gl sz dead, IsLg w gl gd wF sz dead → IsLg w2 gl gd wF sz dead) ∧ (∀ gq sz dead, IsRl w gq gr wF sz dead → IsRl w2 gq gr wF sz dead) := by
  have hr0 := h.rf.keep h.dk hm
  have hb1 : Below B w w' := mod2w hm h.lo.2.1 h.lo.2.2.1 h.hw
  have hb2 : Below B w' w2 := hm2.toBelow (fun i o hi e => by have := h.lo.2.2.2; omega) (Nat.le_trans h.hw hm.size)
  refine ⟨⟨hm2.at (hm.at h.bt (h.dk.freeAt h.bt (by decide))) (hr0.freeAt (hm.at h.bt (h.dk.freeAt h.bt (by decide))) (by decide)), hd.keep hr0 hm2, hr, h.lo, Nat.le_trans (Nat.le_trans h.hw hm.size) hm2.size⟩, hb1.trans hb2, ?_, ?_⟩
  · intro gl sz dead hl
    have h1 := lg_keep hl h.dk hm
    exact lg_keepR h1 hr0 hm2
  · intro gq sz dead hl
    have h1 : IsRl w' gq gr wF sz dead := hm.at hl (h.dk.freeAt hl (by decide))
    exact rlg_keep h1 hr0 hm2
/-- the logs are stored -/
theorem BD.set (h : BD w B gb gd bd gr N d L R) (L' R' : Option Addr) : BD ((w.setCell ⟨gb, 1, none⟩ (.pointer L')).setCell ⟨gb, 3, none⟩ (.pointer R')) B gb gd bd gr N d L' R' ∧ Mod (fun i _ => i = gb) w ((w.setCell ⟨gb, 1, none⟩ (.pointer L')).setCell ⟨gb, 3, none⟩ (.pointer R')) := by
  obtain ⟨h5, hG5⟩ := At.many [(1, .pointer L'), (3, .pointer R')] h.bt
  dsimp only [setMany, setL, List.set] at h5 hG5
  have hm := mod_one hG5
  exact ⟨⟨h5, h.dk.other h.bt (by decide) (by decide) hm, h.rf.other h.bt (by decide) (by decide) hm, h.lo, Nat.le_trans h.hw hm.size⟩, hm⟩
def OP (w w' : World) (B gb gd bd gr N M K : Nat) (d : PD) (L R : Option Addr) : Prop :=
  Below B w w' ∧ ((∃ gl gq s, s.dead = false ∧ 0 ≤ s.sz ∧ s.sz ≤ (M : Int) ∧ s.d.Ok M K ∧ BB w' B gb gd bd gr (N + 1) gl gq s) ∨
    (d.rc wF ≠ 6 ∧ ∃ d', d'.Ok M K ∧ BD w' B gb gd bd gr (N + 1) d' L R ∧ (∀ gl sz dead, IsLg w gl gd wF sz dead → IsLg w' gl gd wF sz dead) ∧ (∀ gq sz dead, IsRl w gq gr wF sz dead → IsRl w' gq gr wF sz dead)))
theorem ok_mend (ho : d.Ok M K) (a b : Int) : (d.out (mendO d wF a b)).Ok M K := by
  unfold mendO
  split
  · exact ok_cu ho wF b wF_hi
  · split
    · exact ok_sy ho wF wF_hi
    · exact ho
theorem drewN_below (w : World) (k : Nat) : Below w.heap.size w (w.drewN k) := by
  induction k with
  | zero => exact Below.refl _ _
  | succ k ih => exact ih.drew
theorem nil_rds (w : World) : RdS w w.heap.size none 0 0 [] := (RecS.nil (w := w) (base := 0)).rd
theorem same_any {A : Option Addr} {n c B : Nat} {ys : List Bsl} {A2 : Option Addr} {n2 c2 B2 : Nat} {zs : List Bsl} (w : World) (hy : RdS w B A n c ys) (hz : RdS w B2 A2 n2 c2 zs) (he : ys.map Bsl.l = zs.map Bsl.l) :
    Calls Try.prog 35 #[.slice A n c, .slice A2 n2 c2] w fun e w' => e = .returned (.bool true) ∧ Below w.heap.size w w' :=
  (same07 A n c B ys A2 n2 c2 B2 zs w hy hz).mono fun e w' h => by
    obtain ⟨rfl, k, rfl⟩ := h
    exact ⟨by rw [decide_eq_true he], drewN_below w k⟩
set_option maxRecDepth 100000 in
set_option maxHeartbeats 4000000 in
/-- nothing but the codes: both have none -/
theorem open_fail {N' : Nat} {d' : PD} {rc : Int} (hne : rc ≠ 0) (w : World) (h : BD w B gb gd bd gr N d L R)
    (HO : Calls Try.prog 31 #[.pointer (some ⟨gd, 0, none⟩), .string wF] w fun x w' => x = .returned (.tuple #[.pointer none, .slice none 0 0, .int .i64 rc]) ∧ Mod (fun i _ => i = gd ∨ i = bd) w w' ∧ IsD w' gd bd N' d')
    (HR : ∀ v, IsR v gr d → Calls Try.prog 66 #[.pointer (some ⟨gr, 0, none⟩), .string wF] v fun x w' => x = .returned (.tuple #[.pointer none, .slice none 0 0, .int .i64 rc]) ∧ Mod (fun i _ => i = gr) v w' ∧ IsR w' gr d') :
    Calls Try.prog 40 #[.pointer (some ⟨gb, 0, none⟩)] w fun x w' => x = .returned (.bool true) ∧ BD w' B gb gd bd gr N' d' L R ∧ Below B w w' ∧ (∀ gl sz dead, IsLg w gl gd wF sz dead → IsLg w' gl gd wF sz dead) ∧ (∀ gq sz dead, IsRl w gq gr wF sz dead → IsRl w' gq gr wF sz dead) := by
  obtain ⟨⟨x0, x1, x2, x3⟩, xf⟩ := at4 h.bt
  have HB := Lib.hid h
  clear h
  have r0 : (rc == 0) = false := by simpa using hne
  go_enter Try.func40, Try.ntmps40
  go_upto_region 2 with (((with_reducible refine (HO).mono ?_); rintro z w1 ⟨rfl, hm1, hd1⟩))
  have hbt1 := hm1.at HB.out.bt (HB.out.dk.freeAt HB.out.bt (by decide))
  have HR1 := HR w1 (HB.out.rf.keep HB.out.dk hm1)
  clear x0 x1 x2 x3 xf HR HO
  obtain ⟨⟨x0, x1, x2, x3⟩, xf⟩ := at4 hbt1
  clear hbt1
  go_upto_region 3 with (((with_reducible refine (HR1).mono ?_); rintro z w2 ⟨rfl, hm2, hr2⟩))
  have HT := Lib.hid (BD.turn HB.out hm1 hd1 hm2 hr2)
  clear HR1 hm1 hd1 hm2 hr2 x0 x1 x2 x3 xf
  have HS := same_any w2 (nil_rds w2) (nil_rds w2) rfl
  go_wp2_with (((with_reducible refine (HS).mono ?_); rintro z w3 ⟨rfl, hb3⟩))
  go_ret
  have hb3' : Below B w2 w3 := hb3.mono HT.out.1.hw
  exact ⟨rfl, HT.out.1.step hb3, HT.out.2.1.trans hb3', fun gl sz dead hl => At.step (HT.out.2.2.1 gl sz dead hl) hb3, fun gq sz dead hl => At.step (HT.out.2.2.2 gq sz dead hl) hb3⟩
set_option maxRecDepth 100000 in
set_option maxHeartbeats 4000000 in
/-- both have a log -/
theorem open_good {N' : Nat} {s : WL} (hsd : s.dead = false) (w : World) (h : BD w B gb gd bd gr N d L R) {rs : List (List UInt8)}
    (HO : Calls Try.prog 31 #[.pointer (some ⟨gd, 0, none⟩), .string wF] w fun x w' => ∃ gl A c ys, x = .returned (.tuple #[.pointer (some ⟨gl, 0, none⟩), .slice A ys.length c, .int .i64 0]) ∧ rs = ys.map Bsl.l ∧ Mod (fun i _ => i = gd ∨ i = bd) w w' ∧ IsD w' gd bd N' s.d ∧ IsLg w' gl gd wF s.sz false ∧ w.heap.size ≤ gl ∧ RecO w' w.heap.size A ys.length c ys)
    (HR : ∀ v, IsR v gr d → Calls Try.prog 66 #[.pointer (some ⟨gr, 0, none⟩), .string wF] v fun x w' => ∃ gq A c ys, x = .returned (.tuple #[.pointer (some ⟨gq, 0, none⟩), .slice A ys.length c, .int .i64 0]) ∧ rs = ys.map Bsl.l ∧ Mod (fun i _ => i = gr) v w' ∧ IsR w' gr s.d ∧ IsRl w' gq gr wF s.sz false ∧ v.heap.size ≤ gq ∧ RecS w' v.heap.size A ys.length c ys) :
    Calls Try.prog 40 #[.pointer (some ⟨gb, 0, none⟩)] w fun x w' => x = .returned (.bool true) ∧ Below B w w' ∧ ∃ gl gq, BB w' B gb gd bd gr N' gl gq s := by
  obtain ⟨sd, sz, dead⟩ := s
  simp only at hsd
  subst hsd
  simp only at HO HR
  obtain ⟨⟨x0, x1, x2, x3⟩, xf⟩ := at4 h.bt
  have HB := Lib.hid h
  clear h
  go_enter Try.func40, Try.ntmps40
  go_upto_region 2 with (((with_reducible refine (HO).mono ?_); rintro z w1 ⟨gl, A1, c1, ys, rfl, hrs1, hm1, hd1, hl1, hgl, hrec1⟩))
  have hbt1 := hm1.at HB.out.bt (HB.out.dk.freeAt HB.out.bt (by decide))
  have hr1 := HB.out.rf.keep HB.out.dk hm1
  have HR1 := HR w1 hr1
  have HR1H := Lib.hid hr1
  have HRS1 := Lib.hid hrs1
  clear x0 x1 x2 x3 xf HR HO hr1 hrs1
  obtain ⟨⟨x0, x1, x2, x3⟩, xf⟩ := at4 hbt1
  clear hbt1
  go_upto_region 3 with (((with_reducible refine (HR1).mono ?_); rintro z w2 ⟨gq, A2, c2, zs, rfl, hrs2, hm2, hr2, hq2, hgq, hrec2⟩))
  have HT := Lib.hid (BD.turn HB.out hm1 hd1 hm2 hr2)
  have hl2 := Lib.hid (lg_keepR hl1 HR1H.out hm2)
  have hrec1' := hrec1.rf HR1H.out hm2
  have hgl2 : B ≤ gl := Nat.le_trans HB.out.hw hgl
  have hgq2 : B ≤ gq := Nat.le_trans (Nat.le_trans HB.out.hw hm1.size) hgq
  have HS := same_any w2 hrec1'.rd hrec2.rd (HRS1.out.symm.trans hrs2)
  have HQ := Lib.hid hq2
  clear HR1 hm1 hd1 hm2 hr2 x0 x1 x2 x3 xf hl1 hgl hrec1 hrec1' hrec2 hgq hrs2 hq2 HB HR1H HRS1
  go_upto_region 5 with (((with_reducible refine (HS).mono ?_); rintro z w3 ⟨rfl, hb3⟩))
  have h3 := HT.out.1.step hb3
  have hB3 := Lib.hid (HT.out.2.1.trans (hb3.mono HT.out.1.hw))
  have hl3 : IsLg w3 gl gd wF sz false := At.step hl2.out hb3
  have hq3 : IsRl w3 gq gr wF sz false := At.step HQ.out hb3
  obtain ⟨⟨x0, x1, x2, x3⟩, xf0, xf1, xf2, xf3⟩ := at4 h3.bt
  obtain ⟨h5, hm5⟩ := h3.set (some ⟨gl, 0, none⟩) (some ⟨gq, 0, none⟩)
  have hl5 : IsLg _ gl gd wF sz false := hm5.at hl3 (At.ne hl3 h3.bt (by decide))
  have hq5 : IsRl _ gq gr wF sz false := hm5.at hq3 (At.ne hq3 h3.bt (by decide))
  have hB5 := Lib.hid (hB3.out.trans (hm5.toBelow (B := B) (fun i o hi e => by have := h3.lo.1; omega) h3.hw))
  have H5 := Lib.hid h5
  have HL5 := Lib.hid hl5
  have HQ5 := Lib.hid hq5
  clear h3 hB3 hl3 hq3 h5 hm5 hl5 hq5 HS HT hl2 HQ hb3
  go_wp2_with fail
  go_ret
  exact ⟨rfl, hB5.out, gl, gq, H5.out, HL5.out, HQ5.out, hgl2, hgq2⟩
theorem open7_any (w : World) (h : BD w B gb gd bd gr N d L R) (ho : d.Ok M K) (hM : M ≤ 1048576) (hK : K ≤ 1000000) (hN : N < 900000) :
    Calls Try.prog 40 #[.pointer (some ⟨gb, 0, none⟩)] w fun x w' => x = .returned (.bool true) ∧ OP w w' B gb gd bd gr N M K d L R := by
  have HO := wopen_any wF_lo wF_hi w h.dk ho hM hN
  have HR := fun v (hv : IsR v gr d) => ropen_any wF_lo v hv ho hM hK
  unfold WO WOg at HO
  unfold RO ROg at HR
  unfold OP
  by_cases h6 : d.rc wF = 6
  · refine (open_good (N' := N + 1) (s := ⟨d, 0, false⟩) rfl w h (rs := []) (HO.mono ?_) (fun v hv => (HR v hv).mono ?_)).mono ?_
    · rintro x w' (⟨_, gl, rfl, hl, hg, hb⟩ | ⟨h, _⟩ | ⟨h, _⟩)
      · exact ⟨gl, none, 0, [], rfl, rfl, (Mod.refl _ w).below hb, (h.dk.step hb).more (by omega), hl, hg, RecO.nil⟩
      · exact absurd h6 h
      · omega
    · rintro x w' (⟨_, gq, rfl, hl, hg, hb⟩ | ⟨h, _⟩ | ⟨h, _⟩)
      · exact ⟨gq, none, 0, [], rfl, rfl, (Mod.refl _ v).below hb, hv.step hb, hl, hg, RecS.nil⟩
      · exact absurd h6 h
      · omega
    · rintro x w' ⟨rfl, hb, gl, gq, hbb⟩
      exact ⟨rfl, hb, .inl ⟨gl, gq, ⟨d, 0, false⟩, rfl, Int.le_refl _, by simp, ho, hbb⟩⟩
  · by_cases h0 : d.rc wF = 0
    · obtain ⟨rs, at_, code, hall⟩ := allR_ex _ (d.rb wF) (Nat.le_refl _)
      have hat := allR_le hall
      have hrb := ok_rb ho wF
      have hok := ok_mend ho ((d.rb wF).length : Nat) at_
      by_cases hc : (mendO d wF ((d.rb wF).length : Nat) at_).code = 0
      · refine (open_good (N' := N + 1) (s := ⟨d.out (mendO d wF ((d.rb wF).length : Nat) at_), at_, false⟩) rfl w h (rs := rs) (HO.mono ?_) (fun v hv => (HR v hv).mono ?_)).mono ?_
        · rintro x w' (⟨h, _⟩ | ⟨_, h, _⟩ | ⟨_, rs', at', code', ha', hm, hd, h⟩)
          · exact absurd h h6
          · exact absurd h0 h
          · obtain ⟨rfl, rfl, rfl⟩ := hall.det ha'
            rcases h with ⟨h, _⟩ | ⟨_, gl, A, c, ys, e1, rfl, e3, e4, e5⟩
            · exact absurd hc h
            · exact ⟨gl, A, c, ys, rfl, e1, hm, hd, e3, e4, e5⟩
        · rintro x w' (⟨h, _⟩ | ⟨_, h, _⟩ | ⟨_, rs', at', code', ha', hm, hd, h⟩)
          · exact absurd h h6
          · exact absurd h0 h
          · obtain ⟨rfl, rfl, rfl⟩ := hall.det ha'
            rcases h with ⟨h, _⟩ | ⟨_, gl, A, c, ys, e1, rfl, e3, e4, e5⟩
            · exact absurd hc h
            · exact ⟨gl, A, c, ys, rfl, e1, hm, hd, e3, e4, e5⟩
        · rintro x w' ⟨rfl, hb, gl, gq, hbb⟩
          exact ⟨rfl, hb, .inl ⟨gl, gq, _, rfl, by simp only; omega, by simp only; omega, hok, hbb⟩⟩
      · refine (open_fail (N' := N + 1) (d' := d.out (mendO d wF ((d.rb wF).length : Nat) at_)) hc w h (HO.mono ?_) (fun v hv => (HR v hv).mono ?_)).mono ?_
        · rintro x w' (⟨h, _⟩ | ⟨_, h, _⟩ | ⟨_, rs', at', code', ha', hm, hd, h⟩)
          · exact absurd h h6
          · exact absurd h0 h
          · obtain ⟨rfl, rfl, rfl⟩ := hall.det ha'
            rcases h with ⟨_, rfl⟩ | ⟨h, _⟩
            · exact ⟨rfl, hm, hd⟩
            · exact absurd h hc
        · rintro x w' (⟨h, _⟩ | ⟨_, h, _⟩ | ⟨_, rs', at', code', ha', hm, hd, h⟩)
          · exact absurd h h6
          · exact absurd h0 h
          · obtain ⟨rfl, rfl, rfl⟩ := hall.det ha'
            rcases h with ⟨_, rfl⟩ | ⟨h, _⟩
            · exact ⟨rfl, hm, hd⟩
            · exact absurd h hc
        · rintro x w' ⟨rfl, hbd, hb, h1, h2⟩
          exact ⟨rfl, hb, .inr ⟨h6, _, hok, hbd, h1, h2⟩⟩
    · refine (open_fail (N' := N + 1) (d' := d) h0 w h (HO.mono ?_) (fun v hv => (HR v hv).mono ?_)).mono ?_
      · rintro x w' (⟨h, _⟩ | ⟨_, _, rfl, hb⟩ | ⟨h, _⟩)
        · exact absurd h h6
        · exact ⟨rfl, (Mod.refl _ w).below hb, (h.dk.step hb).more (by omega)⟩
        · exact absurd h h0
      · rintro x w' (⟨h, _⟩ | ⟨_, _, rfl, hb⟩ | ⟨h, _⟩)
        · exact absurd h h6
        · exact ⟨rfl, (Mod.refl _ v).below hb, hv.step hb⟩
        · exact absurd h h0
      · rintro x w' ⟨rfl, hbd, hb, h1, h2⟩
        exact ⟨rfl, hb, .inr ⟨h6, _, ho, hbd, h1, h2⟩⟩
end
end Go.Proofs.Ytmoijbknjadeeaa
