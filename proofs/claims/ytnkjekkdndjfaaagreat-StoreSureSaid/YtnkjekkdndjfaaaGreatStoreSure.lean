
/- Chapter 11: Open and Do, by what the disk holds. -/
import Derived.Test.YtnkjekkdndjfaaaGreatStoreHold
import Derived.Test.YtnkjekkdndjfaaaGreatStoB
namespace Go.Proofs.YtnkjekkdndjfaaaGreat
set_option linter.unusedVariables false
set_option linter.unusedSimpArgs false
open Go.RowKit
section
variable {w w' : World} {gs gd bd N gst bst Ns gl M K n m : Nat} {d : PD} {s0 s : SL} {ws ts : List (List UInt8)} {sz ev since : Int}
def OPN (w w' : World) (gd bd N M K n : Nat) (s0 s : SL) (ts : List (List UInt8)) (e : Int) (x : Ending) : Prop :=
  ∃ d' sz, SOK w w' gd bd N M d' s sz e x ∧ d'.Ok M K ∧ d'.lost = false ∧ d'.armed = false ∧ Hold d' s0 ts s n ∧ 0 ≤ sz ∧ sz ≤ (M : Int)
theorem open_rdy (e : Int) (w : World) (h : IsD w gd bd N d) (hr : Rdy d s0 ts n) (rp : rplS s0 ts = (0, s)) (ho : d.Ok M K) (hM : M ≤ 200000) (hN : N < 800000) (hn : n ≤ 1000) :
    Calls Tryz.prog 10 #[.pointer (some ⟨gd, 0, none⟩), .int .i64 e] w fun x w' => OPN w w' gd bd N M K n s0 s ts e x := by
  obtain ⟨hb1, hb2⟩ := hr.sn.bs hr.lost hr.s0i hn
  rcases hr.lg with ⟨h1, rfl⟩ | ⟨b, a, code, h1, h2, h3, h4⟩
  · have hrc : d.rc logN = 6 := by unfold PD.rc rdCode; rw [h1, hr.lost]; rfl
    obtain rfl : s0 = s := congrArg Prod.snd rp
    refine (sopen_new e w h ho hM hN hb1 hrc).mono ?_
    intro x w' q
    rw [hb2] at q
    exact ⟨d, 0, q, ho, hr.lost, hr.arm, ⟨hr.sn, hr.s0i, .inl ⟨h1, rfl⟩, hr.sz, hr.cnt, rfl⟩, Int.le_refl _, Int.natCast_nonneg _⟩
  · have hrc : d.rc logN = 0 := by unfold PD.rc rdCode; rw [h1, hr.lost]; rfl
    have hrb : d.rb logN = b := by unfold PD.rb rdBytes; rw [getF_some h1, h1, hr.lost]; rfl
    have hbl := ok_rb ho logN
    rw [hrb] at hbl
    obtain ⟨m1, m2, m3, m4, m5⟩ := mend_sure hr.lost hr.arm ho h1 h3
    refine (sopen_log (rs := ts) (at_ := a) (code := code) (s' := s) e w h ho hM hN hb1 hrc (by rw [hrb]; exact h2) (by rw [hrb]; exact m1) (by rw [hb2]; exact rp)).mono ?_
    intro x w' q
    rw [hrb] at q
    have ha : (framesL ts).length = a := by rw [← h4, List.length_take]; omega
    refine ⟨_, _, q, m2, m3, hr.arm, ⟨hr.sn.same m4, hr.s0i, .inr ?_, hr.sz, hr.cnt, rp⟩, Int.natCast_nonneg _, by omega⟩
    rw [m5, ha, h4]
/-- a record more -/
theorem add_hold (hd : Hold d s0 ws s n) (hl : d.lost = false) (ho : d.Ok 16000 K) (hn : n ≤ 60) {e : Eff} (hri : e.right) (hrv : e.r < 9223372036854775808) (hr : s.rev < e.r) (hap : apOk s.rev s.l e = true) (hlen : (effL e).length ≤ 245) (sz : Int) :
    ∃ c q, waP ⟨d, sz, false⟩ logN (effL e) = (c, q) ∧ q.d.Ok 16000 (K + 1) ∧
      ((c = 0 ∧ q.sz = sz + (8 + (effL e).length) ∧ q.dead = false ∧ q.d.lost = false ∧ Hold q.d s0 (ws ++ [effL e]) ⟨e.r, applyL e.it e.g s.l⟩ (n + 1)) ∨
       (c = 12 ∧ Left q.d s0 ws (ws ++ [effL e]) (n + 1) ∧ rplS s0 (ws ++ [effL e]) = (0, ⟨e.r, applyL e.it e.g s.l⟩))) := by
  have hp : (effL e).length ≠ 0 := by rw [effL_length]; omega
  have hrp : rplS s0 (ws ++ [effL e]) = (0, ⟨e.r, applyL e.it e.g s.l⟩) := by rw [rpl_snoc _ _ _ _ hd.rp]; exact rpl_one hri hrv hr hap
  have hgt := (hd.lg.get (fun e => by rw [e]; rfl)).1
  have hfl := framesL_le ws 245 (fun p hp => (hd.sz p hp).2)
  have hcn := hd.cnt
  have hmul : ws.length * (8 + 245) ≤ 60 * 253 := Nat.mul_le_mul (by omega) (by omega)
  have hok := ok_la_t ho (p := effL e) (by rw [hgt, frameL_length]; omega)
  have hsz : ∀ p ∈ ws ++ [effL e], 1 ≤ p.length ∧ p.length ≤ 245 := by
    intro p hp2
    rcases List.mem_append.1 hp2 with h | h
    · exact hd.sz p h
    · simp only [List.mem_singleton] at h
      subst h
      omega
  have hcnt : (ws ++ [effL e]).length ≤ n + 1 := by rw [List.length_append]; simp; omega
  rw [waP_go hp]
  rcases la_two (p := effL e) hl ho hd.lg with ⟨q1, q2, q3, q4⟩ | ⟨q1, q3, q4⟩
  · rw [q1]
    refine ⟨_, _, rfl, hok, .inl ⟨rfl, rfl, rfl, q2, hd.sn.same q4, hd.s0i.more (Nat.le_succ _), .inr ?_, hsz, hcnt, hrp⟩⟩
    rw [framesL_snoc]
    exact q3
  · rw [q1]
    refine ⟨_, _, rfl, hok, .inr ⟨rfl, ⟨hd.sn.same q4, hd.s0i.more (Nat.le_succ _), .inr ?_, .inr ⟨_, rfl⟩, hsz, hcnt⟩, hrp⟩⟩
    rw [framesL_snoc]
    exact q3
/-- all as one file -/
theorem cmp_hold (hd : Hold d s0 ws s n) (hl : d.lost = false) (ho : d.Ok 16000 K) (hs : SI s n) (hn : n ≤ 60) (hK : K ≤ 1000) (hN : N ≤ 10000) (hNs : Ns ≤ 90000) (sz : Int) :
    (∃ d2, d2.Ok 16000 (K + 1) ∧ d2.lost = false ∧ Hold d2 s [] s n ∧
      ∀ v, IsSto v gs gd bd N gst bst Ns gl d s sz false ev since false → Calls Tryz.prog 22 #[.pointer (some ⟨gs, 0, none⟩)] v fun x w' => x = .returned (.int .i64 0) ∧ Mod (M6 gs gd bd gst bst gl) v w' ∧ IsSto w' gs gd bd (N + 6) gst bst Ns gl d2 s 0 false ev 0 false) ∨
    (∃ d2 sz2 ld2 s0', d2.Ok 16000 (K + 1) ∧ Left d2 s0' ws ws n ∧ rplS s0' ws = (0, s) ∧
      ∀ v, IsSto v gs gd bd N gst bst Ns gl d s sz false ev since false → Calls Tryz.prog 22 #[.pointer (some ⟨gs, 0, none⟩)] v fun x w' => x = .returned (.int .i64 12) ∧ Mod (M6 gs gd bd gst bst gl) v w' ∧ IsSto w' gs gd bd (N + 6) gst bst Ns gl d2 s sz2 ld2 ev since true) := by
  have hlen := hs.len
  have hlo := hs.inv.lo
  have hhi := hs.inv.hi
  have hmul : n * 244 ≤ 60 * 244 := Nat.mul_le_mul hn (Nat.le_refl _)
  have hok := ok_sv_t (b := stL s.rev s.l) hl ho (by rw [slL_len]; omega)
  have hk := sv_keep (b := stL s.rev s.l) ho
  rcases sv_two (b := stL s.rev s.l) (nm := snapN) hl ho snapN_lo snapN_hi with ⟨h1, h2, h3, _⟩ | ⟨h1, _, h3⟩
  · have hdd : Hold (d.out (svO d (spF snapN) snapN (stL s.rev s.l))) s ws s n := ⟨.inr h3, hs, hd.lg.same hk, hd.sz, hd.cnt, rpl_past ws s (rpl_rev _ _ _ hd.rp).2⟩
    obtain ⟨c, q, e, a1, a2, a3, a4⟩ := cl_two h2 hok hdd.lg sz
    obtain ⟨qd, qs, qb⟩ := q
    simp only at a1 a2 a3 a4
    rcases a4 with ⟨rfl, rfl, rfl, a7, a8⟩ | ⟨rfl, a5⟩
    · refine .inl ⟨qd, a1, a7, ⟨.inr (a3.trans h3), hs, a8, (fun p hp => by cases hp), Nat.zero_le _, rfl⟩, fun v hv => ?_⟩
      exact scompact_ok v hv ho (by omega) (by omega) (by omega) (by omega) (hs.small (by omega)) hlo (by omega) (by omega) h1 e
    · refine .inr ⟨qd, qs, qb, s, a1, (hdd.same a3 a5 (Nat.le_refl _)).left, hdd.rp, fun v hv => ?_⟩
      exact scompact_cl (c0 := 12) v hv ho (by omega) (by omega) (by omega) (by omega) (hs.small (by omega)) hlo (by omega) (by omega) h1 (by omega) e
  · refine .inr ⟨_, sz, false, s0, hok, (hd.same h3 hk (Nat.le_refl _)).left, hd.rp, fun v hv => ?_⟩
    exact scompact_sv (c0 := 12) v hv ho (by omega) (by omega) (by omega) (by omega) (hs.small (by omega)) hlo (by omega) (by omega) (by omega) h1
def SURE (w w' : World) (gs gd bd N gst bst Ns gl K n : Nat) (s : SL) (o : Ask) (sz ev since : Int) (x : Ending) : Prop :=
  (∃ d' s' sz' since' s0' ws', DOg w w' (planP s.rev s.l o).told (fun w' => Mod (M6 gs gd bd gst bst gl) w w' ∧ IsSto w' gs gd bd (N + 8) gst bst (Ns + 1) gl d' s' sz' false ev since' false) x ∧ d'.Ok 16000 (K + 2) ∧ d'.lost = false ∧ (s'.rev, s'.l) = doSt s.rev s.l o ∧ SI s' (n + 1) ∧ Hold d' s0' ws' s' (n + 1) ∧ (0 ≤ sz' ∧ sz' ≤ sz + 300) ∧ (0 ≤ since' ∧ since' ≤ since + 1)) ∨
  (∃ d' sz' since' ld' s0' ws' rs' s2, DOg w w' lostT (fun w' => Mod (M6 gs gd bd gst bst gl) w w' ∧ IsSto w' gs gd bd (N + 8) gst bst (Ns + 1) gl d' s sz' ld' ev since' true) x ∧ d'.Ok 16000 (K + 2) ∧ Left d' s0' ws' rs' (n + 1) ∧ rplS s0' ws' = (0, s) ∧ rplS s0' rs' = (0, s2) ∧ (s2 = s ∨ (s2.rev, s2.l) = doSt s.rev s.l o) ∧ SI s2 (n + 1))
theorem dog_mono {p : Told} {P Q : World → Prop} {x : Ending} (h : DOg w w' p P x) (hq : P w' → Q w') : DOg w w' p Q x := by
  obtain ⟨A, n, c, a, b, e⟩ := h
  exact ⟨A, n, c, a, b, hq e⟩
theorem st_same {o : Ask} (h : (planP s.rev s.l o).wr = false) : (s.rev, s.l) = doSt s.rev s.l o := by unfold doSt; rw [h]; simp
theorem st_new {o : Ask} (h : (planP s.rev s.l o).wr = true) (ha : apOk s.rev s.l (planP s.rev s.l o).eff = true) : ((planP s.rev s.l o).eff.r, applyL (planP s.rev s.l o).eff.it (planP s.rev s.l o).eff.g s.l) = doSt s.rev s.l o := by unfold doSt; rw [h, ha]; simp
theorem st_rev {o : Ask} (h : SI s n) (hn : n ≤ 1000) (hw : (planP s.rev s.l o).wr = true) : s.rev < (planP s.rev s.l o).eff.r := by
  have hlo := h.inv.lo
  have hhi := h.inv.hi
  obtain ⟨a1, a2, a3, a4⟩ := plan_wr hw
  rw [a4]
  simp only
  rw [inc_small hlo (by omega)]
  omega
set_option maxHeartbeats 1000000 in
theorem sdo_hold (o : Ask) (w : World) (h : IsSto w gs gd bd N gst bst Ns gl d s sz false ev since false) (hd : Hold d s0 ws s n) (hl : d.lost = false) (ho : d.Ok 16000 K) (hs : SI s n) (hn : n ≤ 60) (hK : K ≤ 900) (hN : N ≤ 9000) (hNs : Ns ≤ 80000) (hev : 1 ≤ ev) (hsz : 0 ≤ sz ∧ sz ≤ 100000) (hsi : 0 ≤ since ∧ since ≤ 1000) (hv : o.val.size ≤ 100) (hks : o.key.size ≤ maxLen) (his : o.iff.size ≤ maxLen) :
    Calls Tryz.prog 18 #[.pointer (some ⟨gs, 0, none⟩), o.v] w fun x w' => SURE w w' gs gd bd N gst bst Ns gl K n s o sz ev since x := by
  by_cases hlt : since < ev
  · cases hwr : (planP s.rev s.l o).wr with
    | false =>
      refine (sdo_read o w h hlt (by omega) hs.ks hks his hwr).mono ?_
      intro x w' q
      exact .inl ⟨d, s, sz, since, s0, ws, dog_mono q (fun q => ⟨q.1, q.2.more (by omega) (by omega)⟩), ho.mono (Nat.le_refl _) (by omega), hl, st_same hwr, hs.more (by omega), hd.same rfl rfl (by omega), by omega, by omega⟩
    | true =>
      obtain ⟨s1, s2, s3, s4, s5⟩ := hs.step (by omega) hv hwr
      obtain ⟨c, q, e, a1, a2⟩ := add_hold hd hl ho hn s2 s3 (st_rev hs (by omega) hwr) s4 s5 sz
      obtain ⟨qd, qs, qb⟩ := q
      simp only at a1 a2
      rcases a2 with ⟨rfl, rfl, rfl, a3, a4⟩ | ⟨rfl, a4, a5⟩
      · refine (sdo_write o w h hlt ho (by omega) (by omega) (by omega) (by omega) (by omega) hs.ks hks his hwr s2 s3 s4 e).mono ?_
        intro x w' q
        exact .inl ⟨_, _, _, _, _, _, dog_mono q (fun q => ⟨q.1, q.2.more (by omega) (by omega)⟩), a1.mono (Nat.le_refl _) (by omega), a3, st_new hwr s4, s1, a4, by simp only; omega, by omega⟩
      · refine (sdo_wlost o w h hlt ho (by omega) (by omega) (by omega) (by omega) hs.ks hks his hwr s2 s3 (by omega) e).mono ?_
        intro x w' q
        exact .inr ⟨_, _, _, _, _, _, _, _, dog_mono q (fun q => ⟨q.1, q.2.more (by omega) (by omega)⟩), a1.mono (Nat.le_refl _) (by omega), a4, hd.rp, a5, .inr (st_new hwr s4), s1⟩
  · rcases cmp_hold (gs := gs) (gd := gd) (bd := bd) (gst := gst) (bst := bst) (gl := gl) (N := N) (Ns := Ns) (ev := ev) (since := since) hd hl ho hs hn (by omega) (by omega) (by omega) sz with ⟨d2, b1, b2, b3, HCP⟩ | ⟨d2, sz2, ld2, s0', b1, b2, b3, HCP⟩
    · cases hwr : (planP s.rev s.l o).wr with
      | false =>
        refine (sdo_read_c o w h (by omega) (by omega) hs.ks hks his hwr HCP).mono ?_
        intro x w' q
        exact .inl ⟨d2, s, 0, 0, s, [], dog_mono q (fun q => ⟨q.1, q.2.more (by omega) (by omega)⟩), b1.mono (Nat.le_refl _) (by omega), b2, st_same hwr, hs.more (by omega), b3.same rfl rfl (by omega), by omega, by omega⟩
      | true =>
        obtain ⟨s1, s2, s3, s4, s5⟩ := hs.step (by omega) hv hwr
        obtain ⟨c, q, e, a1, a2⟩ := add_hold b3 b2 b1 hn s2 s3 (st_rev hs (by omega) hwr) s4 s5 0
        obtain ⟨qd, qs, qb⟩ := q
        simp only at a1 a2
        rcases a2 with ⟨rfl, rfl, rfl, a3, a4⟩ | ⟨rfl, a4, a5⟩
        · refine (sdo_write_c o w h (by omega) b1 (by omega) (by omega) (by omega) (by omega) hs.ks hks his hwr s2 s3 s4 e HCP).mono ?_
          intro x w' q
          exact .inl ⟨_, _, _, _, _, _, dog_mono q (fun q => ⟨q.1, q.2.more (by omega) (by omega)⟩), a1.mono (Nat.le_refl _) (by omega), a3, st_new hwr s4, s1, a4, by simp only; omega, by omega⟩
        · refine (sdo_wlost_c o w h (by omega) b1 (by omega) (by omega) (by omega) (by omega) hs.ks hks his hwr s2 s3 (by omega) e HCP).mono ?_
          intro x w' q
          exact .inr ⟨_, _, _, _, _, _, _, _, dog_mono q (fun q => ⟨q.1, q.2.more (by omega) (by omega)⟩), a1.mono (Nat.le_refl _) (by omega), a4, b3.rp, a5, .inr (st_new hwr s4), s1⟩
    · refine (sdo_clost o w h (by omega) (by omega) HCP).mono ?_
      intro x w' q
      exact .inr ⟨_, _, _, _, s0', ws, ws, s, dog_mono q (fun q => ⟨q.1, q.2.more (by omega) (by omega)⟩), b1.mono (Nat.le_refl _) (by omega), ⟨b2.sn, b2.s0i.more (by omega), b2.lg, b2.pre, b2.sz, Nat.le_trans b2.cnt (by omega)⟩, b3, b3, .inl rfl, hs.more (by omega)⟩
/-- what Do leaves, one form for both roads -/
def SUR2 (w w' : World) (gs gd bd N gst bst Ns gl K n : Nat) (s : SL) (td : Told) (ds : Int × List It) (sz ev since : Int) (x : Ending) : Prop :=
  ∃ tc tr tv ti A m c d' s' sz' since' ld' dead', x = .returned (.agg #[.int .i64 tc, .int .i64 tr, .string tv, .slice A m c]) ∧ OwnI w' w.heap.size A m c ti ∧ Mod (M6 gs gd bd gst bst gl) w w' ∧
    IsSto w' gs gd bd (N + 8) gst bst (Ns + 1) gl d' s' sz' ld' ev since' dead' ∧ d'.Ok 16000 (K + 2) ∧
    (((tc = td.code ∧ tr = td.rev ∧ tv = td.val ∧ ti = td.items) ∧ dead' = false ∧ ld' = false ∧ d'.lost = false ∧ (s'.rev = ds.1 ∧ s'.l = ds.2) ∧ SI s' (n + 1) ∧ (∃ s0' ws', Hold d' s0' ws' s' (n + 1)) ∧ (0 ≤ sz' ∧ sz' ≤ sz + 300) ∧ (0 ≤ since' ∧ since' ≤ since + 1)) ∨
     (tc = 12 ∧ ∃ s0' ws' rs' s2, Left d' s0' ws' rs' (n + 1) ∧ rplS s0' ws' = (0, s) ∧ rplS s0' rs' = (0, s2) ∧ (s2 = s ∨ (s2.rev = ds.1 ∧ s2.l = ds.2)) ∧ SI s2 (n + 1)))
theorem SURE.two {o : Ask} {x : Ending} (h : SURE w w' gs gd bd N gst bst Ns gl K n s o sz ev since x) : SUR2 w w' gs gd bd N gst bst Ns gl K n s (planP s.rev s.l o).told (doSt s.rev s.l o) sz ev since x := by
  rcases h with ⟨d', s', sz', since', s0', ws', ⟨A, m, c, rfl, a, b, e⟩, h1, h2, h3, h4, h5, h6, h7⟩ | ⟨d', sz', since', ld', s0', ws', rs', s2, ⟨A, m, c, rfl, a, b, e⟩, h1, h2, h3, h4, h5, h6⟩
  · exact ⟨_, _, _, _, A, m, c, d', s', sz', since', false, false, rfl, a, b, e, h1, .inl ⟨⟨rfl, rfl, rfl, rfl⟩, rfl, rfl, h2, by rw [← h3]; exact ⟨rfl, rfl⟩, h4, ⟨s0', ws', h5⟩, h6, h7⟩⟩
  · refine ⟨_, _, _, _, A, m, c, d', s, sz', since', ld', true, rfl, a, b, e, h1, .inr ⟨rfl, s0', ws', rs', s2, h2, h3, h4, ?_, h6⟩⟩
    rcases h5 with h5 | h5
    · exact .inl h5
    · exact .inr (by rw [← h5]; exact ⟨rfl, rfl⟩)
theorem plan_not_lost (rev : Int) (l : List It) (o : Ask) : (planP rev l o).told.code ≠ 12 := by
  have h1 : (getR l o.key).1 ≠ 12 := by unfold getR; split <;> simp
  have h2 : mayE l o ≠ 12 := by
    unfold mayE
    repeat (first | split | decide)
  unfold planP
  split
  · exact h1
  · split
    · exact fun e => absurd (show (0 : Int) = 12 from e) (by decide)
    · split
      · exact fun e => absurd (show (1 : Int) = 12 from e) (by decide)
      · split
        · exact h2
        · exact fun e => absurd (show (0 : Int) = 12 from e) (by decide)
end
end Go.Proofs.YtnkjekkdndjfaaaGreat
