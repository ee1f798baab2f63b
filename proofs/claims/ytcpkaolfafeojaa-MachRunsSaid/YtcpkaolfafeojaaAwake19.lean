
/- Chapter 19's example. -/
import Derived.Test.YtcpkaolfafeojaaMach
namespace Go.Proofs.Ytcpkaolfafeojaa
set_option linter.unusedVariables false
set_option linter.unusedSimpArgs false
open Go.RowKit
theorem own_lit {w : World} {g s n : Nat} {t : TypeId} {cs : List Value} (h : At w g t cs) (hl : cs.length = n * s) (hn : n ≤ maxLen) (base : Nat) (hb : base ≤ g) : w.ownsRow base t s (.slice (some ⟨g, 0, none⟩) n n) n cs := by
  refine ⟨hl, .inr ⟨g, n, cs.toArray, rfl, hb, h, Nat.le_refl _, hn, by simp [hl], by simp [← hl]⟩⟩
theorem op_yes (g : Nat) (o : Ask) (f : Value) (n : Nat) (w : World) (h : ProcAt w g o f true n) : Calls Try.prog 21 #[.pointer (some ⟨g, 0, none⟩)] w fun x w' => x = .returned (.tuple #[o.v, .bool true]) ∧ Below w.heap.size w w' := by
  have := op_any g o f true n w h
  simpa using this
theorem op_no (g : Nat) (o : Ask) (f : Value) (n : Nat) (w : World) (h : ProcAt w g o f false n) : Calls Try.prog 21 #[.pointer (some ⟨g, 0, none⟩)] w fun x w' => x = .returned (.tuple #[Ask.zero.v, .bool false]) ∧ Below w.heap.size w w' := by
  have := op_any g o f false n w h
  simpa using this
def ask1 : Ask := ⟨1, ⟨#[]⟩, ⟨#[]⟩, 0, ⟨#[]⟩, 0⟩
def ask2 : Ask := ⟨2, ⟨#[]⟩, ⟨#[]⟩, 0, ⟨#[]⟩, 0⟩
def Res.zero : Res := ⟨0, 0, ⟨#[]⟩, none, 0, 0⟩
theorem ChainAt.below {w w' : World} {gc gp B : Nat} {L : List Ask} {rs : List Res} {Al Ad : Option Addr} {nl cl nt ct : Nat} (h : ChainAt w gc gp B L rs Al nl cl Ad nt ct) (hb : Below w.heap.size w w') : ChainAt w' gc gp B L rs Al nl cl Ad nt ct :=
  ⟨h.at_.below hb, own_mod h.l ((Mod.refl (fun _ _ => False) w).below hb) (by simp), own_mod h.told ((Mod.refl (fun _ _ => False) w).below hb) (by simp), h.bc, h.bp, h.len, h.small⟩
structure ChSt (w0 w : World) (gc gp B : Nat) (L : List Ask) (rs : List Res) (n : Nat) : Prop where
  ch : ∃ Al nl cl Ad nt ct, ChainAt w gc gp B L rs Al nl cl Ad nt ct
  pr : ProcNext w gc gp L rs.length n
  md : Mod (TCond gc gp B) w0 w
section
variable {w0 w w' : World} {gc gp B n : Nat} {L : List Ask} {rs : List Res}
theorem ProcNext.below {k : Nat} (h : ProcNext w gc gp L k n) (hb : Below w.heap.size w w') : ProcNext w' gc gp L k n := by
  unfold ProcNext at *
  split
  · rename_i hl; rw [dif_pos hl] at h; exact At.below h hb
  · rename_i hl; rw [dif_neg hl] at h; exact At.below h hb
theorem ChSt.below (h : ChSt w0 w gc gp B L rs n) (hb : Below w.heap.size w w') : ChSt w0 w' gc gp B L rs n := by
  obtain ⟨⟨Al, nl, cl, Ad, nt, ct, hc⟩, hp, hm⟩ := h
  exact ⟨⟨Al, nl, cl, Ad, nt, ct, hc.below hb⟩, hp.below hb, hm.below hb⟩
theorem ChSt.alloc (h : ChSt w0 w gc gp B L rs n) (o : Obj) : ChSt w0 (w.alloc o) gc gp B L rs n := h.below ((Below.refl _ _).alloc (Nat.le_refl _) o)
theorem ChSt.cell (h : ChSt w0 w gc gp B L rs n) : w.cell? ⟨gc, 0, none⟩ = some (.pointer (some ⟨gp, 0, none⟩)) := by
  obtain ⟨⟨Al, nl, cl, Ad, nt, ct, hc⟩, _⟩ := h
  exact (at3 hc.at_).1.1
theorem ChSt.told (h : ChSt w0 w gc gp B L rs n) : ∃ A c, w.cell? ⟨gc, 2, none⟩ = some (.slice A rs.length c) ∧ w.ownsRow B 49 4 (.slice A rs.length c) rs.length (rs.flatMap Res.row) := by
  obtain ⟨⟨Al, nl, cl, Ad, nt, ct, hc⟩, _⟩ := h
  have := hc.lenT
  subst this
  exact ⟨_, _, (at3 hc.at_).1.2.2, hc.told⟩
theorem ChSt.proc (h : ChSt w0 w gc gp B L rs n) : ∃ o f a, ProcAt w gp o f a n := by
  have hp := h.pr
  unfold ProcNext at hp
  split at hp <;> exact ⟨_, _, _, hp⟩
theorem ChSt.keep (h : ChSt w0 w gc gp B L rs n) (hm : Mod (TCond gc gp B) w w') {g : Nat} {t : TypeId} {cs : List Value} (hx : At w g t cs) (ht : t ≠ 49 ∧ t ≠ 114 ∧ t ≠ 32) : At w' g t cs := by
  obtain ⟨o, f, a, hp⟩ := h.proc
  obtain ⟨⟨Al, nl, cl, Ad, nt, ct, hc⟩, _⟩ := h
  refine hm.at hx fun e => ?_
  rcases e with e | e | ⟨_, e⟩
  · exact hx.ne hc.at_ ht.2.2 e
  · exact hx.ne hp ht.2.1 e
  · exact ht.1 e
theorem ChSt.keepOwn (h : ChSt w0 w gc gp B L rs n) (hm : Mod (TCond gc gp B) w w') {b s m : Nat} {e : TypeId} {v : Value} {xs : List Value} (hx : w.ownsRow b e s v m xs) (ht : e ≠ 49 ∧ e ≠ 114 ∧ e ≠ 32) : w'.ownsRow b e s v m xs := by
  obtain ⟨o, f, a, hp⟩ := h.proc
  obtain ⟨⟨Al, nl, cl, Ad, nt, ct, hc⟩, _⟩ := h
  refine own_mod hx hm fun i o ho hi hit hM => ?_
  rcases hM with e' | e' | ⟨_, e'⟩
  · exact isT_at hc.at_ ho hit ht.2.2 e'
  · exact isT_at hp ho hit ht.2.1 e'
  · exact ht.1 (isT_uniq hit e')
theorem ChSt.lt (h : ChSt w0 w gc gp B L rs n) : gc < w.heap.size := by
  obtain ⟨⟨Al, nl, cl, Ad, nt, ct, hc⟩, _⟩ := h
  exact hc.at_.lt
theorem next_st (w0 w : World) (Al : Option Addr) (nl cl : Nat) (Ad : Option Addr) (nt ct : Nat) (n : Nat) (hc : ChainAt w gc gp B L [] Al nl cl Ad nt ct) (hp : ProcAt w gp Ask.zero .nilFunc false n) (hm : Mod (TCond gc gp B) w0 w) :
    Calls Try.prog 20 #[.pointer (some ⟨gc, 0, none⟩)] w fun x w' => x = .returned (.tuple #[]) ∧ ChSt w0 w' gc gp B L [] n ∧ Mod (fun k _ => k = gp) w w' := by
  by_cases hl : 0 < L.length
  · refine (next_yes gc gp B L [] Al Ad nl cl nt ct Ask.zero .nilFunc false n w hc hp 0 rfl hl).mono ?_
    rintro x w' ⟨rfl, hp', hm'⟩
    exact ⟨rfl, ⟨⟨_, _, _, _, _, _, hc.mod hm' hp⟩, by unfold ProcNext; simp only [List.length_nil]; rw [dif_pos hl]; exact hp', hm.step hm' fun i o _ _ e => .inr (.inl e)⟩, hm'⟩
  · refine (next_no gc gp B L [] Al Ad nl cl nt ct w hc (by omega)).mono ?_
    rintro x w' ⟨rfl, hp', hm'⟩
    exact ⟨rfl, ⟨⟨_, _, _, _, _, _, hc.mod hm' hp⟩, by unfold ProcNext; simp only [List.length_nil]; rw [dif_neg hl]; exact hp' _ _ _ _ hp, hm.step hm' fun i o _ _ e => .inr (.inl e)⟩, hm'⟩
theorem op_st (h : ChSt w0 w gc gp B L rs n) {k : Nat} (hk : rs.length = k) (hl : k < L.length) : Calls Try.prog 21 #[.pointer (some ⟨gp, 0, none⟩)] w fun x w' => x = .returned (.tuple #[L[k].v, .bool true]) ∧ Below w.heap.size w w' := by
  subst hk
  have hp := h.pr
  unfold ProcNext at hp
  rw [dif_pos hl] at hp
  exact op_yes gp _ _ n w hp
theorem op_st_no (h : ChSt w0 w gc gp B L rs n) (hl : L.length ≤ rs.length) : Calls Try.prog 21 #[.pointer (some ⟨gp, 0, none⟩)] w fun x w' => x = .returned (.tuple #[Ask.zero.v, .bool false]) ∧ Below w.heap.size w w' := by
  have hp := h.pr
  unfold ProcNext at hp
  rw [dif_neg (by omega)] at hp
  exact op_no gp _ _ n w hp
theorem steps_st (h : ChSt w0 w gc gp B L rs n) : Calls Try.prog 25 #[.pointer (some ⟨gp, 0, none⟩)] w fun x w' => x = .returned (.int .i64 (n : Int)) ∧ w = w' := by
  have hp := h.pr
  unfold ProcNext at hp
  split at hp <;> exact steps_any _ _ _ _ _ _ hp
theorem feed_st (h : ChSt w0 w gc gp B L rs n) (r : Res) (hl : rs.length < L.length) (hn : n ≤ 1000000) : Calls Try.prog 24 #[.pointer (some ⟨gp, 0, none⟩), r.v] w fun x w' => x = .returned (.bool true) ∧ ChSt w0 w' gc gp B L (rs ++ [r]) (n + 1) ∧ Mod (TCond gc gp B) w w' := by
  obtain ⟨⟨Al, nl, cl, Ad, nt, ct, hc⟩, hp, hm⟩ := h
  unfold ProcNext at hp
  rw [dif_pos hl] at hp
  refine (feed_chain gc gp B L rs Al Ad nl cl nt ct _ n r w hc hp (by have := hc.len; omega) hn).mono ?_
  rintro x w' ⟨rfl, ⟨A', nt', ct', hc'⟩, hp', hm'⟩
  exact ⟨rfl, ⟨⟨_, _, _, _, _, _, hc'⟩, by rw [List.length_append]; exact hp', hm.trans hm'⟩, hm'⟩
theorem feed_st_no (h : ChSt w0 w gc gp B L rs n) (r : Res) (hl : L.length ≤ rs.length) : Calls Try.prog 24 #[.pointer (some ⟨gp, 0, none⟩), r.v] w fun x w' => x = .returned (.bool false) ∧ Below w.heap.size w w' := by
  have hp := h.pr
  unfold ProcNext at hp
  rw [dif_neg (by omega)] at hp
  exact feed_idle gp _ _ n r w hp
end
set_option maxRecDepth 100000 in
set_option maxHeartbeats 4000000 in
theorem awake19 (w : World) : Calls Try.prog 26 #[] w fun x w' => x = .returned (.bool true) ∧ Below w.heap.size w w' := by
  go_enter Try.func26, Try.ntmps26
  go_wp2_with fail
  refine (mnew_any _).mono ?_
  rintro x w1 ⟨rfl, hP, hw1⟩
  have hb1 : Below w.heap.size w w1 := by subst hw1; exact (Below.refl _ _).alloc (Nat.le_refl _) _
  have hz1 : w1.heap.size = w.heap.size + 1 := by subst hw1; simp
  have hM := (Mod.refl (TCond (w1.heap.size + 1) w.heap.size w.heap.size) w).step (Mod.of_below hb1 (Nat.le_refl _)) (fun i o hi _ e => absurd e (by omega))
  clear hw1 hb1
  have HP := Lib.hid hP
  have HZ := Lib.hid hz1
  have HM := Lib.hid hM
  clear hP hz1 hM
  go_wp2_with fail
  have e1 := At.new w1 37 (ask1.row ++ ask2.row)
  have e2 := At.new (w1.alloc (.cells (ask1.row ++ ask2.row).toArray 37)) 32 (ChainCells w.heap.size (some ⟨w1.heap.size, 0, none⟩) 2 2 none 0 0)
  have e1' := e1.alloc (.cells (ChainCells w.heap.size (some ⟨w1.heap.size, 0, none⟩) 2 2 none 0 0).toArray 32)
  have hP := At.alloc (At.alloc HP.out (.cells (ask1.row ++ ask2.row).toArray 37)) (.cells (ChainCells w.heap.size (some ⟨w1.heap.size, 0, none⟩) 2 2 none 0 0).toArray 32)
  have hM := (HM.out.alloc (.cells (ask1.row ++ ask2.row).toArray 37)).alloc (.cells (ChainCells w.heap.size (some ⟨w1.heap.size, 0, none⟩) 2 2 none 0 0).toArray 32)
  rw [show (w1.alloc (.cells (ask1.row ++ ask2.row).toArray 37)).heap.size = w1.heap.size + 1 from by simp] at e2
  have hz := HZ.out
  clear e1 HP HM HZ
  simp only [ChainCells, ask1, ask2, Ask.row, List.cons_append, List.nil_append] at e1' e2 hP hM
  generalize World.alloc _ _ = w2 at *
  have hC : ChainAt w2 (w1.heap.size + 1) w.heap.size w.heap.size [ask1, ask2] [] (some ⟨w1.heap.size, 0, none⟩) 2 2 none 0 0 := ⟨e2, own_lit e1' rfl (by simp [maxLen]) 0 (Nat.zero_le _), World.ownsRow_nil _ _ _ _, by omega, Nat.le_refl _, by simp, by simp⟩
  clear e2 e1'
  have hgc : w.heap.size ≤ w1.heap.size + 1 := by omega
  generalize w1.heap.size + 1 = gc at *
  generalize w1.heap.size = gl at *
  have HM := Lib.hid hM
  have HC := Lib.hid hC
  have HP := Lib.hid hP
  clear hz hM hC hP
  refine (next_st w w2 _ _ _ _ _ _ 0 HC.out HP.out HM.out).mono ?_
  rintro x w3 ⟨rfl, hS, _⟩
  clear HM HC HP
  have c0 := hS.cell
  go_wp2_with fail
  refine (op_st hS (k := 0) rfl (by simp)).mono ?_
  rintro x w4 ⟨rfl, hb4⟩
  replace hS := (hS.below hb4).alloc (.cells ask1.cells 37)
  have hx := At.new w4 37 ask1.row
  clear hb4 c0
  unfold Ask.v 
  unfold ask1 Ask.cells Ask.row at *
  go_upto_region 4 with fail
  generalize World.alloc _ _ = w5 at *
  have c0 := hS.cell
  go_wp2_with fail
  refine (feed_st hS Res.zero (by simp) (by omega)).mono ?_
  rintro x w6 ⟨rfl, hS6, hm6⟩
  replace hx := hS.keep hm6 hx (by decide)
  clear hS hm6 c0
  have c0 := hS6.cell
  go_wp2_with fail
  refine (feed_st hS6 Res.zero (by simp) (by omega)).mono ?_
  rintro x w7 ⟨rfl, hS7, hm7⟩
  replace hx := hS6.keep hm7 hx (by decide)
  clear hS6 hm7 c0
  have c0 := hS7.cell
  obtain ⟨⟨x0, x1, x2, x3, x4, x5⟩, _⟩ := at6 hx
  go_wp2_with fail
  refine (feed_st_no hS7 Res.zero (by simp)).mono ?_
  rintro x w8 ⟨rfl, hb8⟩
  have hS8 := hS7.below hb8
  clear hS7 hb8 c0
  have c0 := hS8.cell
  go_wp2_with fail
  refine (steps_st hS8).mono ?_
  rintro x w9 ⟨rfl, rfl⟩
  have hM := hS8.md
  clear hS8
  go_wp2_with fail
  go_ret
  exact ⟨rfl, hM.toBelow (fun i o hi e => by rcases e with e | e | ⟨e, _⟩ <;> omega) (Nat.le_refl _)⟩
end Go.Proofs.Ytcpkaolfafeojaa
