
/- Chapter 11: a store as plain data; the program's store does what the plain one does. -/
import Derived.Test.YtnkjekkdndjfaaaGreatStoB
import Derived.Test.YtnkjekkdndjfaaaGreatStoA
namespace Go.Proofs.YtnkjekkdndjfaaaGreat
set_option linter.unusedVariables false
set_option linter.unusedSimpArgs false
open Go.RowKit
/-- a store as plain data -/
structure ST where
  d : PD
  s : SL
  sz : Int
  ld : Bool
  ev : Int
  since : Int
  dead : Bool
def ST.sv (x : ST) : Out := svO x.d (spF snapN) snapN (stL x.s.rev x.s.l)
def ST.cl (x : ST) : Int × WL := wcP ⟨x.d.out x.sv, x.sz, x.ld⟩ logN
def ST.ef (x : ST) (o : Ask) : Eff := (planP x.s.rev x.s.l o).eff
def ST.ap (x : ST) (o : Ask) : Int × WL := waP ⟨x.d, x.sz, x.ld⟩ logN (effL (x.ef o))
/-- all as one file -/
def cmP (x : ST) : Int × ST :=
  if x.dead then (12, x) else
  if x.sv.code = 0 then (if x.cl.1 = 0 then (0, ⟨x.cl.2.d, x.s, x.cl.2.sz, x.cl.2.dead, x.ev, 0, false⟩) else (x.cl.1, ⟨x.cl.2.d, x.s, x.cl.2.sz, x.cl.2.dead, x.ev, x.since, true⟩))
  else (x.sv.code, ⟨x.d.out x.sv, x.s, x.sz, x.ld, x.ev, x.since, true⟩)
/-- what is asked of a store that lives, when no files are made one -/
def apP (y : ST) (o : Ask) : Told × ST :=
  if (planP y.s.rev y.s.l o).wr then
    (if (y.ap o).1 = 0 then ((planP y.s.rev y.s.l o).told, ⟨(y.ap o).2.d, ⟨(y.ef o).r, applyL (y.ef o).it (y.ef o).g y.s.l⟩, (y.ap o).2.sz, (y.ap o).2.dead, y.ev, y.since + 1, false⟩)
     else (lostT, ⟨(y.ap o).2.d, y.s, (y.ap o).2.sz, (y.ap o).2.dead, y.ev, y.since, true⟩))
  else ((planP y.s.rev y.s.l o).told, y)
def doP11 (x : ST) (o : Ask) : Told × ST :=
  if x.dead then (lostT, x) else
  if x.ev ≤ x.since then (if (cmP x).2.dead then (lostT, (cmP x).2) else apP (cmP x).2 o) else apP x o
/-- behind n things asked and m writes to the disk -/
structure STI (x : ST) (n m : Nat) : Prop where
  si : SI x.s n
  ok : x.d.Ok (10000 * m) m
  sz : 0 ≤ x.sz ∧ x.sz ≤ 10000 * (m : Int)
  sn : 0 ≤ x.since ∧ x.since ≤ (n : Int)
  ev : 1 ≤ x.ev
theorem STI.more {x : ST} {n m n' m' : Nat} (h : STI x n m) (hn : n ≤ n') (hm : m ≤ m') : STI x n' m' :=
  ⟨h.si.more hn, h.ok.mono (by omega) (by omega), ⟨h.sz.1, by have := h.sz.2; omega⟩, ⟨h.sn.1, by have := h.sn.2; omega⟩, h.ev⟩
theorem logN_mx : logN.size ≤ maxLen := by show (3 : Nat) ≤ maxLen; simp only [maxLen]; omega
theorem sv_inv {x : ST} {n m : Nat} (h : STI x n m) (hn : n ≤ 30) : (x.d.out x.sv).Ok (10000 * (m + 1)) (m + 1) := by
  have hlen := h.si.len
  have hmul : n * 244 ≤ 30 * 244 := Nat.mul_le_mul hn (Nat.le_refl _)
  exact (sv_ok (b := stL x.s.rev x.s.l) h.ok (by rw [spF_size]; exact snapN_hi) snapN_mx).mono (by rw [slL_len]; omega) (Nat.le_refl _)
theorem cl_inv {s : WL} {M K : Nat} (ho : s.d.Ok M K) (hs : 0 ≤ s.sz ∧ s.sz ≤ (M : Int)) : (wcP s logN).2.d.Ok M K ∧ 0 ≤ (wcP s logN).2.sz ∧ (wcP s logN).2.sz ≤ (M : Int) := by
  have h1 : (s.d.out (s.d.cuO logN 0)).Ok M K := ok_cu ho logN 0 logN_mx
  unfold wcP
  split
  · exact ⟨ho, hs⟩
  · split
    · exact ⟨h1, by simp only; omega⟩
    · exact ⟨h1, hs⟩
theorem ap_inv {s : WL} {m : Nat} (ho : s.d.Ok (10000 * m) m) (hs : 0 ≤ s.sz ∧ s.sz ≤ 10000 * (m : Int)) {p : List UInt8} (hp : p.length ≤ 245) : (waP s logN p).2.d.Ok (10000 * (m + 1)) (m + 1) ∧ 0 ≤ (waP s logN p).2.sz ∧ (waP s logN p).2.sz ≤ 10000 * ((m + 1 : Nat) : Int) := by
  have h0 : s.d.Ok (10000 * (m + 1)) (m + 1) := ho.mono (by omega) (by omega)
  have hz : 0 ≤ s.sz ∧ s.sz ≤ 10000 * ((m + 1 : Nat) : Int) := ⟨hs.1, by omega⟩
  unfold waP
  split
  · exact ⟨h0, hz⟩
  · split
    · exact ⟨h0, hz⟩
    · refine ⟨?_, ?_⟩
      · show (s.d.out (laO s.d logN p)).Ok _ _
        have h1 := (ok_ap ho logN logN_mx (frameL p)).mono (show 10000 * m + (frameL p).length ≤ 10000 * (m + 1) by rw [frameL_length]; omega) (Nat.le_refl (m + 1))
        unfold laO
        split
        · exact ok_sy h1 logN logN_mx
        · exact h1
      · simp only
        split <;> omega
theorem cm_inv {x : ST} {n m : Nat} (h : STI x n m) (hn : n ≤ 30) : STI (cmP x).2 n (m + 1) := by
  have h1 := sv_inv h hn
  have h2 := cl_inv (s := ⟨x.d.out x.sv, x.sz, x.ld⟩) h1 ⟨h.sz.1, by have := h.sz.2; simp only; omega⟩
  have h3 : (x.cl).2.d.Ok (10000 * (m + 1)) (m + 1) ∧ 0 ≤ x.cl.2.sz ∧ x.cl.2.sz ≤ ((10000 * (m + 1) : Nat) : Int) := h2
  have hz := h.sz
  have hs := h.sn
  unfold cmP
  split
  · exact h.more (Nat.le_refl _) (Nat.le_succ _)
  · split
    · split
      · exact ⟨h.si, h3.1, ⟨h3.2.1, by have := h3.2.2; simp only; omega⟩, by simp only; omega, h.ev⟩
      · exact ⟨h.si, h3.1, ⟨h3.2.1, by have := h3.2.2; simp only; omega⟩, by simp only; omega, h.ev⟩
    · exact ⟨h.si, h1, ⟨hz.1, by simp only; omega⟩, by simp only; omega, h.ev⟩
theorem apP_inv {x : ST} {n m : Nat} {o : Ask} (h : STI x n m) (hn : n ≤ 30) (hv : o.val.size ≤ 100) : STI (apP x o).2 (n + 1) (m + 1) := by
  have hz := h.sz
  have hs := h.sn
  unfold apP
  split
  · rename_i hw
    obtain ⟨s1, s2, s3, s4, s5⟩ := h.si.step (by omega) hv hw
    have h3 := ap_inv (s := ⟨x.d, x.sz, x.ld⟩) (p := effL (x.ef o)) h.ok h.sz s5
    have h4 : (x.ap o).2.d.Ok (10000 * (m + 1)) (m + 1) ∧ 0 ≤ (x.ap o).2.sz ∧ (x.ap o).2.sz ≤ 10000 * ((m + 1 : Nat) : Int) := h3
    split
    · exact ⟨s1, h4.1, h4.2, by simp only; omega, h.ev⟩
    · exact ⟨h.si.more (Nat.le_succ _), h4.1, h4.2, by simp only; omega, h.ev⟩
  · exact h.more (Nat.le_succ _) (Nat.le_succ _)
theorem do_inv {x : ST} {n m : Nat} {o : Ask} (h : STI x n m) (hn : n ≤ 30) (hv : o.val.size ≤ 100) : STI (doP11 x o).2 (n + 1) (m + 2) := by
  unfold doP11
  split
  · exact h.more (by omega) (by omega)
  · split
    · split
      · exact (cm_inv h hn).more (by omega) (by omega)
      · exact (apP_inv (cm_inv h hn) hn hv).more (by omega) (by omega)
    · exact (apP_inv h hn hv).more (by omega) (by omega)
/-- the program's store, as plain data -/
def IsX (w : World) (gs gd bd N gst bst Ns gl : Nat) (x : ST) : Prop := IsSto w gs gd bd N gst bst Ns gl x.d x.s x.sz x.ld x.ev x.since x.dead
section
variable {w w' : World} {gs gd bd N gst bst Ns gl n m : Nat}
set_option maxRecDepth 100000 in
theorem scompact_dead {p0 p1 p2 : Option Addr} {ev since : Int} (w : World) (h : At w gs 107 [.pointer p0, .pointer p1, .pointer p2, .int .i64 ev, .int .i64 since, .bool true]) :
    Calls Tryz.prog 22 #[.pointer (some ⟨gs, 0, none⟩)] w fun x w' => x = .returned (.int .i64 12) ∧ w = w' := by
  obtain ⟨⟨x0, x1, x2, x3, x4, x5⟩, xf⟩ := at6 h
  clear h
  go_enter Tryz.func22, Tryz.ntmps22
  go_wp2_with fail
  go_ret
  exact ⟨rfl, rfl⟩
theorem sdead_any {p0 p1 p2 : Option Addr} {ev since : Int} {dead : Bool} (w : World) (h : At w gs 107 [.pointer p0, .pointer p1, .pointer p2, .int .i64 ev, .int .i64 since, .bool dead]) :
    Calls Tryz.prog 25 #[.pointer (some ⟨gs, 0, none⟩)] w fun x w' => x = .returned (.bool dead) ∧ w = w' := by
  obtain ⟨⟨x0, x1, x2, x3, x4, x5⟩, xf⟩ := at6 h
  clear h
  go_enter Tryz.func25, Tryz.ntmps25
  go_wp2_with fail
  go_ret
  exact ⟨rfl, rfl⟩
theorem scm_any {x : ST} (w : World) (h : IsX w gs gd bd N gst bst Ns gl x) (hi : STI x n m) (hn : n ≤ 30) (hm : m ≤ 70) (hN : N ≤ 9000) (hNs : Ns ≤ 80000) :
    Calls Tryz.prog 22 #[.pointer (some ⟨gs, 0, none⟩)] w fun e w' => e = .returned (.int .i64 (cmP x).1) ∧ Mod (M6 gs gd bd gst bst gl) w w' ∧ IsX w' gs gd bd (N + 6) gst bst Ns gl (cmP x).2 := by
  obtain ⟨d, s, sz, ld, ev, since, dead⟩ := x
  have hlen := hi.si.len
  have hlo := hi.si.inv.lo
  have hhi := hi.si.inv.hi
  have hsm := hi.si.small (by omega)
  have ho := hi.ok
  simp only at hlen hlo hhi hsm ho
  have hmul : n * 244 ≤ 30 * 244 := Nat.mul_le_mul hn (Nat.le_refl _)
  unfold IsX at h ⊢
  simp only at h
  unfold cmP
  cases dead with
  | true =>
    refine (scompact_dead w h.blk).mono ?_
    rintro e w' ⟨rfl, rfl⟩
    exact ⟨rfl, Mod.refl _ _, h.more (Nat.le_add_right _ _) (Nat.le_refl _)⟩
  | false =>
    simp only [Bool.false_eq_true, if_false]
    split
    · rename_i h1
      have h1 : (svO d (spF snapN) snapN (stL s.rev s.l)).code = 0 := h1
      split
      · rename_i h2
        refine (scompact_ok (q := (wcP ⟨d.out (svO d (spF snapN) snapN (stL s.rev s.l)), sz, ld⟩ logN).2) w h ho (by omega) (by omega) (by omega) (by omega) hsm hlo (by omega) (by omega) h1 (Prod.ext h2 rfl)).mono ?_
        intro e w' q
        exact q
      · rename_i h2
        refine (scompact_cl (q := (wcP ⟨d.out (svO d (spF snapN) snapN (stL s.rev s.l)), sz, ld⟩ logN).2) (c0 := (wcP ⟨d.out (svO d (spF snapN) snapN (stL s.rev s.l)), sz, ld⟩ logN).1) w h ho (by omega) (by omega) (by omega) (by omega) hsm hlo (by omega) (by omega) h1 h2 rfl).mono ?_
        intro e w' q
        exact q
    · rename_i h1
      refine (scompact_sv (c0 := (svO d (spF snapN) snapN (stL s.rev s.l)).code) w h ho (by omega) (by omega) (by omega) (by omega) hsm hlo (by omega) (by omega) h1 rfl).mono ?_
      intro e w' q
      exact q
set_option maxRecDepth 100000 in
set_option maxHeartbeats 4000000 in
theorem sdo_dead {p0 p1 p2 : Option Addr} {ev since : Int} (o : Ask) (w : World) (h : At w gs 107 [.pointer p0, .pointer p1, .pointer p2, .int .i64 ev, .int .i64 since, .bool true]) :
    Calls Tryz.prog 18 #[.pointer (some ⟨gs, 0, none⟩), o.v] w fun x w' => DOg w w' lostT (fun w' => Below w.heap.size w w') x := by
  obtain ⟨ki, k, vl, r, i, j⟩ := o
  unfold Ask.v Ask.cells
  simp only
  obtain ⟨h0, hR, hb⟩ := two_at w 49 [.int .i64 ki, .string k, .string vl, .int .i64 r, .string i, .int .i64 j] 58 [.int .i64 0, .int .i64 0, .string ⟨#[]⟩, .slice none 0 0]
  replace h := At.step h hb
  go_enter Tryz.func18, Tryz.ntmps18
  go_upto_region 1 with fail
  generalize World.alloc (World.alloc w _) _ = w1 at *
  obtain ⟨gR, hgRe⟩ : ∃ gR, w.heap.size + 1 = gR := ⟨_, rfl⟩
  rw [hgRe] at hR ⊢
  have hgR : w.heap.size ≤ gR := by omega
  clear hgRe h0
  obtain ⟨⟨x0, x1, x2, x3, x4, x5⟩, xf⟩ := at6 h
  go_wp2_with (
    with_reducible refine (slost_any _).mono ?_
    rintro z v14 ⟨rfl, hb14⟩
    replace hb := chain hb hb14
    replace hR := hR.step hb14
    obtain ⟨⟨r0, r1, r2, r3⟩, rf0, rf1, rf2, rf3⟩ := at4 hR
    obtain ⟨hmR, hG⟩ := At.many [(0, .int .i64 12), (1, .int .i64 0), (2, .string ⟨#[]⟩), (3, .slice none 0 0)] hR
    dsimp only [setMany, setL, List.set] at hmR hG
    have HB := Lib.hid (hb.trans (below_mod (mod_one hG) (fun i o hi e => by omega) hb.size))
    have HRR := Lib.hid hmR
    clear hG hmR hR hb14 hb h x0 x1 x2 x3 x4 x5 xf)
  obtain ⟨⟨u0, u1, u2, u3⟩, _⟩ := at4 HRR.out
  exact bodyPost_ret (v := .agg #[.int .i64 12, .int .i64 0, .string ⟨#[]⟩, .slice none 0 0]) (by simp [results, Tryz.results18, go_sem, u0, u1, u2, u3]) rfl ⟨none, 0, 0, rfl, World.ownsRow_nil _ _ _ _, HB.out⟩
theorem dgm {p : Told} {P Q : World → Prop} {x : Ending} (h : DOg w w' p P x) (hq : P w' → Q w') : DOg w w' p Q x := by
  obtain ⟨A, n, c, a, b, e⟩ := h
  exact ⟨A, n, c, a, b, hq e⟩
theorem ap_no {y : ST} {o : Ask} (h : (planP y.s.rev y.s.l o).wr = false) : apP y o = ((planP y.s.rev y.s.l o).told, y) := by
  unfold apP
  rw [if_neg (by rw [h]; exact Bool.false_ne_true)]
theorem ap_yes {y : ST} {o : Ask} (h : (planP y.s.rev y.s.l o).wr = true) (h2 : (y.ap o).1 = 0) : apP y o = ((planP y.s.rev y.s.l o).told, ⟨(y.ap o).2.d, ⟨(y.ef o).r, applyL (y.ef o).it (y.ef o).g y.s.l⟩, (y.ap o).2.sz, (y.ap o).2.dead, y.ev, y.since + 1, false⟩) := by
  unfold apP
  rw [if_pos h, if_pos h2]
theorem ap_bad {y : ST} {o : Ask} (h : (planP y.s.rev y.s.l o).wr = true) (h2 : (y.ap o).1 ≠ 0) : apP y o = (lostT, ⟨(y.ap o).2.d, y.s, (y.ap o).2.sz, (y.ap o).2.dead, y.ev, y.since, true⟩) := by
  unfold apP
  rw [if_pos h, if_neg h2]
theorem do_d {x : ST} {o : Ask} (h : x.dead = true) : doP11 x o = (lostT, x) := by
  unfold doP11
  rw [if_pos h]
theorem do_s {x : ST} {o : Ask} (h : x.dead = false) (h2 : ¬ x.ev ≤ x.since) : doP11 x o = apP x o := by
  unfold doP11
  rw [if_neg (by rw [h]; exact Bool.false_ne_true), if_neg h2]
theorem do_cl {x : ST} {o : Ask} (h : x.dead = false) (h2 : x.ev ≤ x.since) (h3 : (cmP x).2.dead = true) : doP11 x o = (lostT, (cmP x).2) := by
  unfold doP11
  rw [if_neg (by rw [h]; exact Bool.false_ne_true), if_pos h2, if_pos h3]
theorem do_c {x : ST} {o : Ask} (h : x.dead = false) (h2 : x.ev ≤ x.since) (h3 : (cmP x).2.dead = false) : doP11 x o = apP (cmP x).2 o := by
  unfold doP11
  rw [if_neg (by rw [h]; exact Bool.false_ne_true), if_pos h2, if_neg (by rw [h3]; exact Bool.false_ne_true)]
theorem cm_facts {x : ST} (h : x.dead = false) : (cmP x).2.s = x.s ∧ (cmP x).2.ev = x.ev ∧ (((cmP x).2.dead = false ∧ (cmP x).1 = 0 ∧ (cmP x).2.since = 0) ∨ ((cmP x).2.dead = true ∧ (cmP x).1 ≠ 0 ∧ (cmP x).2.since = x.since)) := by
  unfold cmP
  rw [if_neg (by rw [h]; exact Bool.false_ne_true)]
  split
  · split
    · exact ⟨rfl, rfl, .inl ⟨rfl, rfl, rfl⟩⟩
    · rename_i h2; exact ⟨rfl, rfl, .inr ⟨rfl, h2, rfl⟩⟩
  · rename_i h2; exact ⟨rfl, rfl, .inr ⟨rfl, h2, rfl⟩⟩
set_option maxHeartbeats 1000000 in
theorem sdo_p {x : ST} (o : Ask) (w : World) (h : IsX w gs gd bd N gst bst Ns gl x) (hi : STI x n m) (hn : n ≤ 30) (hm : m ≤ 70) (hN : N ≤ 9000) (hNs : Ns ≤ 80000) (hv : o.val.size ≤ 100) (hks : o.key.size ≤ maxLen) (his : o.iff.size ≤ maxLen) :
    Calls Tryz.prog 18 #[.pointer (some ⟨gs, 0, none⟩), o.v] w fun e w' => DOg w w' (doP11 x o).1 (fun w' => Mod (M6 gs gd bd gst bst gl) w w' ∧ IsX w' gs gd bd (N + 8) gst bst (Ns + 1) gl (doP11 x o).2) e := by
  have hsz := hi.sz
  have hsn := hi.sn
  cases hd : x.dead with
  | true =>
    rw [do_d hd]
    have h1 : IsSto w gs gd bd N gst bst Ns gl x.d x.s x.sz x.ld x.ev x.since true := hd ▸ (show IsSto w gs gd bd N gst bst Ns gl x.d x.s x.sz x.ld x.ev x.since x.dead from h)
    refine (sdo_dead o w h1.blk).mono ?_
    intro e w' q
    exact dgm q (fun q => ⟨(Mod.refl _ _).below q, (IsSto.step h q).more (by omega) (by omega)⟩)
  | false =>
    have h1 : ∀ v, IsX v gs gd bd N gst bst Ns gl x → IsSto v gs gd bd N gst bst Ns gl x.d x.s x.sz x.ld x.ev x.since false := fun v h => hd ▸ (show IsSto v gs gd bd N gst bst Ns gl x.d x.s x.sz x.ld x.ev x.since x.dead from h)
    have h2 : ∀ v, IsSto v gs gd bd N gst bst Ns gl x.d x.s x.sz x.ld x.ev x.since false → IsX v gs gd bd N gst bst Ns gl x := fun v h => by unfold IsX; rw [hd]; exact h
    by_cases hlt : x.ev ≤ x.since
    · obtain ⟨f1, f2, f3⟩ := cm_facts hd
      have hi2 := cm_inv hi hn
      have hok2 := hi2.ok
      have hsz2 := hi2.sz
      have HC := fun v (hv : IsSto v gs gd bd N gst bst Ns gl x.d x.s x.sz x.ld x.ev x.since false) => scm_any v (h2 v hv) hi hn hm hN hNs
      rcases f3 with ⟨g1, g2, g3⟩ | ⟨g1, g2, g3⟩
      · rw [do_c hd hlt g1]
        generalize cmP x = Y at *
        obtain ⟨c, d2, s2, sz2, ld2, ev2, since2, dead2⟩ := Y
        simp only at f1 f2 g1 g2 g3 hok2 hsz2
        subst f1 f2 g1 g2 g3
        unfold IsX at HC
        simp only at HC
        dsimp only
        cases hwr : (planP x.s.rev x.s.l o).wr with
        | false =>
          rw [ap_no (y := ⟨d2, x.s, sz2, ld2, x.ev, 0, false⟩) hwr]
          refine (sdo_read_c o w (h1 _ h) hlt (by omega) hi.si.ks hks his hwr HC).mono ?_
          intro e w' q
          exact dgm q (fun q => ⟨q.1, q.2.more (by omega) (by omega)⟩)
        | true =>
          obtain ⟨s1, s2, s3, s4, s5⟩ := hi.si.step (by omega) hv hwr
          by_cases hq : (waP ⟨d2, sz2, ld2⟩ logN (effL (planP x.s.rev x.s.l o).eff)).1 = 0
          · rw [ap_yes (y := ⟨d2, x.s, sz2, ld2, x.ev, 0, false⟩) hwr hq]
            refine (sdo_write_c (q := (waP ⟨d2, sz2, ld2⟩ logN (effL (planP x.s.rev x.s.l o).eff)).2) o w (h1 _ h) hlt hok2 (by omega) (by omega) (by omega) (by omega) hi.si.ks hks his hwr s2 s3 s4 (Prod.ext hq rfl) HC).mono ?_
            intro e w' q
            exact dgm q (fun q => ⟨q.1, q.2.more (by omega) (by omega)⟩)
          · rw [ap_bad (y := ⟨d2, x.s, sz2, ld2, x.ev, 0, false⟩) hwr hq]
            refine (sdo_wlost_c (q := (waP ⟨d2, sz2, ld2⟩ logN (effL (planP x.s.rev x.s.l o).eff)).2) o w (h1 _ h) hlt hok2 (by omega) (by omega) (by omega) (by omega) hi.si.ks hks his hwr s2 s3 hq rfl HC).mono ?_
            intro e w' q
            exact dgm q (fun q => ⟨q.1, q.2.more (by omega) (by omega)⟩)
      · rw [do_cl hd hlt g1]
        generalize cmP x = Y at *
        obtain ⟨c, d2, s2, sz2, ld2, ev2, since2, dead2⟩ := Y
        simp only at f1 f2 g1 g2 g3
        subst f1 f2 g1 g3
        unfold IsX at HC
        simp only at HC
        refine (sdo_clost o w (h1 _ h) hlt g2 HC).mono ?_
        intro e w' q
        exact dgm q (fun q => ⟨q.1, q.2.more (by omega) (by omega)⟩)
    · rw [do_s hd hlt]
      cases hwr : (planP x.s.rev x.s.l o).wr with
      | false =>
        rw [ap_no hwr]
        refine (sdo_read o w (h1 _ h) (by omega) (by omega) hi.si.ks hks his hwr).mono ?_
        intro e w' q
        exact dgm q (fun q => ⟨q.1, (h2 _ q.2).more (by omega) (by omega)⟩)
      | true =>
        obtain ⟨s1, s2, s3, s4, s5⟩ := hi.si.step (by omega) hv hwr
        by_cases hq : (waP ⟨x.d, x.sz, x.ld⟩ logN (effL (planP x.s.rev x.s.l o).eff)).1 = 0
        · rw [ap_yes hwr hq]
          refine (sdo_write (q := (waP ⟨x.d, x.sz, x.ld⟩ logN (effL (planP x.s.rev x.s.l o).eff)).2) o w (h1 _ h) (by omega) hi.ok (by omega) (by omega) (by omega) (by omega) (by omega) hi.si.ks hks his hwr s2 s3 s4 (Prod.ext hq rfl)).mono ?_
          intro e w' q
          exact dgm q (fun q => ⟨q.1, q.2.more (by omega) (by omega)⟩)
        · rw [ap_bad hwr hq]
          refine (sdo_wlost (q := (waP ⟨x.d, x.sz, x.ld⟩ logN (effL (planP x.s.rev x.s.l o).eff)).2) o w (h1 _ h) (by omega) hi.ok (by omega) (by omega) (by omega) (by omega) hi.si.ks hks his hwr s2 s3 hq rfl).mono ?_
          intro e w' q
          exact dgm q (fun q => ⟨q.1, q.2.more (by omega) (by omega)⟩)
end
end Go.Proofs.YtnkjekkdndjfaaaGreat
