
/- Chapter 19: what is done step by step. -/
import Derived.Deep.Cut
import Derived.Laws.EntriesVeiled
import Derived.BigQuiet
import Derived.Deep.QuietTactic
import Derived.StillTailTactics
import Derived.Test.YtcpkaolfafeojaaOps
import Derived.Test.YtcpkaolfafeojaaKnow
import Derived.Test.YtcpkaolfafeojaaStage
namespace Go.Proofs.Ytcpkaolfafeojaa
set_option linter.unusedVariables false
set_option linter.unusedSimpArgs false
open Go.RowKit
/-- a procedure's cells -/
def procL (o : Ask) (f : Value) (a : Bool) (n : Nat) : List Value := [.int .i64 o.kind, .string o.key, .string o.val, .int .i64 o.rev, .string o.iff, .int .i64 o.ifrev, f, .bool a, .int .i64 (n : Int)]
def ProcAt (w : World) (g : Nat) (o : Ask) (f : Value) (a : Bool) (n : Nat) : Prop := At w g 114 (procL o f a n)
theorem mnew_any (w : World) : Calls Try.prog 19 #[] w fun x w' => x = .returned (.pointer (some ⟨w.heap.size, 0, none⟩)) ∧ ProcAt w' w.heap.size Ask.zero .nilFunc false 0 ∧ w' = w.alloc (.cells (procL Ask.zero .nilFunc false 0).toArray 114) := by
  unfold ProcAt procL Ask.zero
  go_enter Try.func19, Try.ntmps19
  go_wp2_with fail
  go_ret
  exact ⟨rfl, At.new _ _ _, rfl⟩
theorem steps_nil (w : World) : Calls Try.prog 25 #[.pointer none] w fun x w' => x = .returned (.int .i64 0) ∧ w = w' := by
  go_enter Try.func25, Try.ntmps25
  go_wp2_with fail
  go_ret
  exact ⟨rfl, rfl⟩
theorem op_nil (w : World) : Calls Try.prog 21 #[.pointer none] w fun x w' => x = .returned (.tuple #[Ask.zero.v, .bool false]) ∧ Below w.heap.size w w' := by
  unfold Ask.v Ask.cells Ask.zero
  go_enter Try.func21, Try.ntmps21
  go_wp2_with fail
  exact bodyPost_ret (v := .tuple #[.agg #[.int .i64 0, .string ⟨#[]⟩, .string ⟨#[]⟩, .int .i64 0, .string ⟨#[]⟩, .int .i64 0], .bool false]) (by simp [results, Try.results21, go_sem]) rfl ⟨rfl, (Below.refl _ _).alloc (Nat.le_refl _) _⟩
theorem feed_nil (w : World) : Calls Try.prog 24 #[.pointer none, .agg #[.int .i64 0, .int .i64 0, .string ⟨#[]⟩, .slice none 0 0]] w fun x w' => x = .returned (.bool false) ∧ Below w.heap.size w w' := by
  go_enter Try.func24, Try.ntmps24
  go_wp2_with fail
  go_ret
  exact ⟨rfl, (Below.refl _ _).alloc (Nat.le_refl _) _⟩
theorem ask_nil (o : Ask) (f : Value) (w : World) : Calls Try.prog 32 #[.pointer none, o.v, f] w fun x w' => x = .returned (.tuple #[]) ∧ Below w.heap.size w w' := by
  unfold Ask.v Ask.cells
  go_enter Try.func32, Try.ntmps32
  go_wp2_with fail
  go_end0
  exact ⟨rfl, (Below.refl _ _).alloc (Nat.le_refl _) _⟩
theorem cells9 {w : World} {g : Nat} {a b c d e f x y z : Value} {t : TypeId} (h : w.heap[g]? = some (.cells #[a, b, c, d, e, f, x, y, z] t)) :
    (w.cell? ⟨g, 0, none⟩ = some a ∧ w.cell? ⟨g, 1, none⟩ = some b ∧ w.cell? ⟨g, 2, none⟩ = some c ∧ w.cell? ⟨g, 3, none⟩ = some d ∧ w.cell? ⟨g, 4, none⟩ = some e ∧ w.cell? ⟨g, 5, none⟩ = some f ∧ w.cell? ⟨g, 6, none⟩ = some x ∧ w.cell? ⟨g, 7, none⟩ = some y ∧ w.cell? ⟨g, 8, none⟩ = some z) ∧
    (w.frozen? ⟨g, 0, none⟩ = false ∧ w.frozen? ⟨g, 1, none⟩ = false ∧ w.frozen? ⟨g, 2, none⟩ = false ∧ w.frozen? ⟨g, 3, none⟩ = false ∧ w.frozen? ⟨g, 4, none⟩ = false ∧ w.frozen? ⟨g, 5, none⟩ = false ∧ w.frozen? ⟨g, 6, none⟩ = false ∧ w.frozen? ⟨g, 7, none⟩ = false ∧ w.frozen? ⟨g, 8, none⟩ = false) := by
  refine ⟨⟨?_, ?_, ?_, ?_, ?_, ?_, ?_, ?_, ?_⟩, ?_, ?_, ?_, ?_, ?_, ?_, ?_, ?_, ?_⟩ <;> simp [World.cell?, World.frozen?, h]
theorem steps_any (g : Nat) (o : Ask) (f : Value) (a : Bool) (n : Nat) (w : World) (h : ProcAt w g o f a n) : Calls Try.prog 25 #[.pointer (some ⟨g, 0, none⟩)] w fun x w' => x = .returned (.int .i64 (n : Int)) ∧ w = w' := by
  obtain ⟨⟨c0, c1, c2, c3, c4, c5, c6, c7, c8⟩, _⟩ := cells9 h
  go_enter Try.func25, Try.ntmps25
  go_wp2_with fail
  go_ret
  exact ⟨rfl, rfl⟩
theorem op_any (g : Nat) (o : Ask) (f : Value) (a : Bool) (n : Nat) (w : World) (h : ProcAt w g o f a n) : Calls Try.prog 21 #[.pointer (some ⟨g, 0, none⟩)] w fun x w' => x = .returned (.tuple #[(if a then o else Ask.zero).v, .bool a]) ∧ Below w.heap.size w w' := by
  have hg : g < w.heap.size := h.lt
  obtain ⟨⟨c0, c1, c2, c3, c4, c5, c6, c7, c8⟩, _⟩ := cells9 h
  unfold Ask.v Ask.cells Ask.zero
  cases a
  · go_enter Try.func21, Try.ntmps21
    go_wp2_with fail
    exact bodyPost_ret (v := .tuple #[.agg #[.int .i64 0, .string ⟨#[]⟩, .string ⟨#[]⟩, .int .i64 0, .string ⟨#[]⟩, .int .i64 0], .bool false]) (by simp [results, Try.results21, go_sem]) rfl ⟨rfl, (Below.refl _ _).alloc (Nat.le_refl _) _⟩
  · go_enter Try.func21, Try.ntmps21
    go_wp2_with fail
    exact bodyPost_ret (v := .tuple #[.agg #[.int .i64 o.kind, .string o.key, .string o.val, .int .i64 o.rev, .string o.iff, .int .i64 o.ifrev], .bool true]) (by simp [results, Try.results21, go_sem]) rfl ⟨rfl, (Below.refl _ _).alloc (Nat.le_refl _) _⟩
def ask_end (w1 : World) (g : Nat) (o : Ask) (f : Value) : World := setMany w1 g [(0, .int .i64 o.kind), (1, .string o.key), (2, .string o.val), (3, .int .i64 o.rev), (4, .string o.iff), (5, .int .i64 o.ifrev), (6, f), (7, .bool true)]
set_option maxRecDepth 100000 in
set_option maxHeartbeats 2000000 in
theorem ask_any (g : Nat) (o o1 : Ask) (f f1 : Value) (a : Bool) (n : Nat) (w : World) (h : ProcAt w g o1 f1 a n) (hf : f = .nilFunc ∨ ∃ x y z, f = .func x y z) : Calls Try.prog 32 #[.pointer (some ⟨g, 0, none⟩), o.v, f] w fun x w' => x = .returned (.tuple #[]) ∧ ProcAt w' g o f true n ∧ Mod (fun k _ => k = g) w w' := by
  have h0 := h.alloc (.cells o.cells 37)
  have hM := (Mod.refl (fun k _ => k = g) w).alloc (.cells o.cells 37)
  have hX := At.new w 37 o.cells.toList
  clear h
  unfold Ask.v Ask.cells at *
  have HH := Lib.hid h0
  have HM := Lib.hid hM
  have HX := Lib.hid hX
  clear h0 hM hX
  rcases hf with rfl | ⟨x, y, z, rfl⟩
  all_goals
    go_enter Try.func32, Try.ntmps32
    go_upto_region 2 with fail
    have h0 := HH.out
    have hM := HM.out
    have hbx := HX.out
    clear HH HM HX
    simp only at h0 hM hbx
    generalize World.alloc _ _ = w1 at *
    obtain ⟨⟨c0, c1, c2, c3, c4, c5, c6, c7, c8⟩, f0, f1, f2, f3, f4, f5, f6, f7, f8⟩ := cells9 h0
    obtain ⟨b0, b1, b2, b3, b4, b5⟩ := cells6 hbx
    have H0 := Lib.hid h0
    have HM := Lib.hid hM
    clear h0 hM hbx
    go_wp2_with fail
    go_end0
    have hmany := fun v => H0.out.many [(0, .int .i64 o.kind), (1, .string o.key), (2, .string o.val), (3, .int .i64 o.rev), (4, .string o.iff), (5, .int .i64 o.ifrev), (6, v), (7, .bool true)]
    exact ⟨rfl, (hmany _).1, HM.out.grown (hmany _).2 (fun i o _ _ e => (Option.some.inj e).symm)⟩
end Go.Proofs.Ytcpkaolfafeojaa
namespace Go.Proofs.Ytcpkaolfafeojaa
set_option linter.unusedVariables false
set_option linter.unusedSimpArgs false
open Go.RowKit
/-- what is told -/
structure Res where
  code : Int
  rev : Int
  val : ByteArray
  A : Option Addr
  n : Nat
  c : Nat
def Res.row (r : Res) : List Value := [.int .i64 r.code, .int .i64 r.rev, .string r.val, .slice r.A r.n r.c]
def Res.v (r : Res) : Value := .agg r.row.toArray
def Ask.row (o : Ask) : List Value := [.int .i64 o.kind, .string o.key, .string o.val, .int .i64 o.rev, .string o.iff, .int .i64 o.ifrev]
theorem Ask.row_length (o : Ask) : o.row.length = 6 := rfl
theorem Res.row_length (r : Res) : r.row.length = 4 := rfl
/-- the method value c.hear -/
def hearV (gc : Nat) : Value := .func (.func 59) #[.pointer (some ⟨gc, 0, none⟩)] #[]
def ChainCells (gp : Nat) (Al : Option Addr) (nl cl : Nat) (Ad : Option Addr) (nt ct : Nat) : List Value := [.pointer (some ⟨gp, 0, none⟩), .slice Al nl cl, .slice Ad nt ct]
structure ChainAt (w : World) (gc gp B : Nat) (L : List Ask) (rs : List Res) (Al : Option Addr) (nl cl : Nat) (Ad : Option Addr) (nt ct : Nat) : Prop where
  at_ : At w gc 32 (ChainCells gp Al nl cl Ad nt ct)
  l : w.ownsRow 0 37 6 (.slice Al nl cl) nl (L.flatMap Ask.row)
  told : w.ownsRow B 49 4 (.slice Ad nt ct) nt (rs.flatMap Res.row)
  bc : B ≤ gc
  bp : B ≤ gp
  len : L.length ≤ 20
  small : rs.length ≤ 20
theorem ne_types_l : (37 : TypeId) ≠ 49 ∧ (37 : TypeId) ≠ 32 ∧ (37 : TypeId) ≠ 114 := by decide
theorem ne_types : (114 : TypeId) ≠ 49 ∧ (114 : TypeId) ≠ 32 ∧ (32 : TypeId) ≠ 49 := by decide
section
variable {w w' : World} {gc gp B : Nat} {L : List Ask} {rs : List Res} {Al Ad : Option Addr} {nl cl nt ct : Nat}
theorem isT_uniq {t t' : TypeId} {o : Obj} (h : IsT t o) (k : IsT t' o) : t = t' := by
  cases o <;> first | exact h.symm.trans k | exact h.elim
theorem isT_at {t t' : TypeId} {g : Nat} {cs : List Value} (h : At w g t cs) {i : Nat} {o : Obj} (ho : w.heap[i]? = some o) (hit : IsT t' o) (hne : t' ≠ t) : ¬ i = g := by
  intro e
  subst e
  unfold At at h
  rw [h] at ho
  injection ho with ho
  subst ho
  exact hne hit.symm
theorem ChainAt.lenL (h : ChainAt w gc gp B L rs Al nl cl Ad nt ct) : nl = L.length := (Rd.count Ask.row_length (by omega) (Rd.of_own h.l)).symm
theorem ChainAt.lenT (h : ChainAt w gc gp B L rs Al nl cl Ad nt ct) : nt = rs.length := by
  have := h.told.1
  rw [flat_length Res.row_length] at this
  omega
theorem ChainAt.mod (h : ChainAt w gc gp B L rs Al nl cl Ad nt ct) (hm : Mod (fun k _ => k = gp) w w') {o : Ask} {f : Value} {a : Bool} {n : Nat} (hp : ProcAt w gp o f a n) : ChainAt w' gc gp B L rs Al nl cl Ad nt ct := by
  have hne : gc ≠ gp := h.at_.ne hp ne_types.2.1.symm
  refine ⟨hm.at h.at_ hne, own_mod h.l hm fun i o ho hi hit => isT_at hp ho hit ne_types_l.2.2, own_mod h.told hm fun i o ho hi hit => isT_at hp ho hit ne_types.1.symm, h.bc, h.bp, h.len, h.small⟩
end
set_option maxRecDepth 100000 in
set_option maxHeartbeats 2000000 in
theorem next_yes (gc gp B : Nat) (L : List Ask) (rs : List Res) (Al Ad : Option Addr) (nl cl nt ct : Nat) (o : Ask) (f : Value) (a : Bool) (n : Nat) (w : World) (h : ChainAt w gc gp B L rs Al nl cl Ad nt ct) (hp : ProcAt w gp o f a n) (k : Nat) (hk : rs.length = k) (hlt : k < L.length) :
    Calls Try.prog 20 #[.pointer (some ⟨gc, 0, none⟩)] w fun x w' => x = .returned (.tuple #[]) ∧ ProcAt w' gp L[k] (hearV gc) true n ∧ Mod (fun k _ => k = gp) w w' := by
  subst hk
  obtain ⟨g, off, e, hg, he⟩ := (Rd.of_own h.l).elem Ask.row_length (by omega) (k := rs.length) hlt
  have h1 := h.lenL
  have h2 := h.lenT
  subst e
  have hask := fun w' hp' => ask_any gp L[rs.length] o (hearV gc) f a n w' hp' (.inr ⟨_, _, _, rfl⟩)
  generalize L[rs.length] = x at *
  have hA := h.at_
  have hd : decide (nt < nl) = true := by simp; omega
  have hi : (nt : Int) < (nl : Int) := by omega
  have hmax := (Rd.of_own h.l).le
  have hmax2 := (Rd.of_own h.l).max
  unfold maxLen at hmax2
  obtain rfl : rs.length = nt := h2.symm
  unfold Ask.v Ask.cells at hask
  have HA := Lib.hid hask
  have HP := Lib.hid hp
  have hM := Mod.refl (fun k (_ : Obj) => k = gp) w
  clear hask h h1 h2 hp
  obtain ⟨⟨c0, c1, c2⟩, _⟩ := at3 hA
  go_enter Try.func20, Try.ntmps20
  go_wp2_with fail
  go_quiet (fail)
  go_wp2_with fail
  replace hA := hA.drewN nq
  replace hM := hM.drewN nq
  replace he : ∀ r u, x.row[r]? = some u → (w.drewN nq).cell? ⟨g, off + rs.length * 6 + r, none⟩ = some u := he
  replace hp : ProcAt (w.drewN nq) gp o f a n := HP.out
  clear c0 c1 c2 HP
  generalize w.drewN nq = w1 at *
  obtain ⟨⟨c0, c1, c2⟩, _⟩ := at3 hA
  have e0 := he 0 _ rfl
  have e1 := he 1 _ rfl
  have e2 := he 2 _ rfl
  have e3 := he 3 _ rfl
  have e4 := he 4 _ rfl
  have e5 := he 5 _ rfl
  rw [Nat.add_zero] at e0
  clear he
  have HP := Lib.hid hp
  clear hp
  go_still_tail 17, (by kernel_rfl)
  change wpList _ _ _ _ _ (World.drew _)
  go_wp2_with fail
  refine (HA.out _ (show ProcAt w1.drew gp o f a n from At.drew HP.out)).mono ?_
  rintro e w2 ⟨rfl, hp2, hM2⟩
  go_wp2_with fail
  go_end0
  exact ⟨rfl, hp2, hM.drew.trans hM2⟩
set_option maxRecDepth 100000 in
theorem next_no (gc gp B : Nat) (L : List Ask) (rs : List Res) (Al Ad : Option Addr) (nl cl nt ct : Nat) (w : World) (h : ChainAt w gc gp B L rs Al nl cl Ad nt ct) (hlt : L.length ≤ rs.length) :
    Calls Try.prog 20 #[.pointer (some ⟨gc, 0, none⟩)] w fun x w' => x = .returned (.tuple #[]) ∧ (∀ o f a n, ProcAt w gp o f a n → ProcAt w' gp o f a n) ∧ Mod (fun k _ => k = gp) w w' := by
  have h1 := h.lenL
  have h2 := h.lenT
  have hA := h.at_
  have hd : decide (nt < nl) = false := by simp; omega
  have hi : ¬ (nt : Int) < (nl : Int) := by omega
  have hM := Mod.refl (fun k (_ : Obj) => k = gp) w
  clear h h1 h2
  obtain ⟨⟨c0, c1, c2⟩, _⟩ := at3 hA
  go_enter Try.func20, Try.ntmps20
  go_wp2_with fail
  go_quiet (fail)
  go_wp2_with fail
  go_end0
  exact ⟨rfl, fun _ _ _ _ h => h, hM.drewN nq⟩
def TCond (gc gp B : Nat) : Nat → Obj → Prop := fun k o => k = gc ∨ k = gp ∨ (B ≤ k ∧ IsT 49 o)
theorem info_res : (Try.prog.info? 49).map (fun i => (i.zero, i.size, i.bytes)) = some (some (.agg #[.int .i64 0, .int .i64 0, .string ⟨#[]⟩, .slice none 0 0]), 4, 56) := by kernel_rfl
set_option maxRecDepth 100000 in
set_option maxHeartbeats 2000000 in
theorem hear_any (gc gp B : Nat) (L : List Ask) (rs : List Res) (Al Ad : Option Addr) (nl cl nt ct : Nat) (o : Ask) (f : Value) (a : Bool) (n : Nat) (r : Res) (w : World) (h : ChainAt w gc gp B L rs Al nl cl Ad nt ct) (hp : ProcAt w gp o f a n) (hlt : rs.length < 20) :
    Calls Try.prog 59 #[.pointer (some ⟨gc, 0, none⟩), r.v] w fun x w' => x = .returned (.tuple #[]) ∧
      (∃ Ad nt ct, ChainAt w' gc gp B L (rs ++ [r]) Al nl cl Ad nt ct) ∧ (if hl : rs.length + 1 < L.length then ProcAt w' gp L[rs.length + 1] (hearV gc) true n else ProcAt w' gp o f a n) ∧ Mod (TCond gc gp B) w w' := by
  have h0 := h.at_.alloc (.cells r.row.toArray 49)
  have hr0 := At.new w 49 r.row
  have hM := (Mod.refl (TCond gc gp B) w).alloc (.cells r.row.toArray 49)
  have hL := own_mod h.l ((Mod.refl (fun _ _ => False) w).alloc (.cells r.row.toArray 49)) (by simp)
  have hT := h.told.alloc (.cells r.row.toArray 49)
  have hP := At.alloc hp (.cells r.row.toArray 49)
  have hT0 := Lib.hid h.told
  obtain ⟨_, _, _, hbc, hbp, hlen, hsmall⟩ := h
  clear hp
  unfold Res.v
  unfold Res.row at h0 hr0 hM hL hT hP ⊢
  have HM := Lib.hid hM
  clear hM
  go_enter Try.func59, Try.ntmps59
  go_upto_region 1 with fail
  generalize World.alloc _ _ = w1 at *
  obtain ⟨⟨c0, c1, c2⟩, f0, f1, f2⟩ := at3 h0
  obtain ⟨⟨b0, b1, b2, b3⟩, _⟩ := at4 hr0
  have HL := Lib.hid hL
  have HT := Lib.hid hT
  have HP := Lib.hid hP
  clear hL hT hP
  refine region_any (by kernel_rfl) ?_
  change wpAny _ _ _ _ _ _ _ (World.drew _)
  replace h0 := h0.drew
  replace hr0 := hr0.drew
  have hL : w1.drew.ownsRow 0 37 6 (.slice Al nl cl) nl (L.flatMap Ask.row) := HL.out
  have hT : w1.drew.ownsRow B 49 4 (.slice Ad nt ct) nt (rs.flatMap Res.row) := HT.out
  have hP := At.drew HP.out
  have hM := Mod.drew HM.out
  clear HL HT HP HM c0 c1 c2 f0 f1 f2 b0 b1 b2 b3
  generalize w1.drew = w2 at *
  obtain ⟨⟨c0, c1, c2⟩, f0, f1, f2⟩ := at3 h0
  obtain ⟨⟨b0, b1, b2, b3⟩, _⟩ := at4 hr0
  have l0 := h0.lt
  have lr := hr0.lt
  have HL := Lib.hid hL
  have HT := Lib.hid hT
  have HP := Lib.hid hP
  have HM := Lib.hid hM
  clear hL hT hP hM
  refine stage 7 ?_
  refine stage_pure (i := 0) (v := ?_) rfl (by kernel_rfl) (by kernel_rfl) (by kernel_rfl) (by kernel_rfl) (by kernel_rfl) (fun _ _ _ h => h) (Or.inl ⟨by kernel_rfl, ?_⟩) ?_
  rotate_left
  · (intro wS; go_simp; try (first | (with_reducible rfl) | rw [if_pos (by omega)] | rw [if_neg (by omega)]))
  try simp only [Act.put, List.getElem_toArray, List.getElem_cons_succ, List.getElem_cons_zero, List.setIfInBounds_toArray, List.set_cons_zero, List.set_cons_succ]
  refine stage_read (i := 1) (v := ?_) rfl (by kernel_rfl) (by kernel_rfl) (by kernel_rfl) (by kernel_rfl) (by kernel_rfl) (by kernel_rfl) (fun _ _ _ h => h) (Or.inl ⟨by kernel_rfl, ?_⟩) ?_
  rotate_left
  · (intro wS hwS; obtain ⟨hcS, hfS, hhS⟩ := bcell hwS; go_simp; try (first | (with_reducible rfl) | rw [if_pos (by omega)] | rw [if_neg (by omega)]))
  try simp only [Act.put, List.getElem_toArray, List.getElem_cons_succ, List.getElem_cons_zero, List.setIfInBounds_toArray, List.set_cons_zero, List.set_cons_succ]
  refine stage_read (i := 2) (v := ?_) rfl (by kernel_rfl) (by kernel_rfl) (by kernel_rfl) (by kernel_rfl) (by kernel_rfl) (by kernel_rfl) (fun _ _ _ h => h) (Or.inl ⟨by kernel_rfl, ?_⟩) ?_
  rotate_left
  · (intro wS hwS; obtain ⟨hcS, hfS, hhS⟩ := bcell hwS; go_simp; try (first | (with_reducible rfl) | rw [if_pos (by omega)] | rw [if_neg (by omega)]))
  try simp only [Act.put, List.getElem_toArray, List.getElem_cons_succ, List.getElem_cons_zero, List.setIfInBounds_toArray, List.set_cons_zero, List.set_cons_succ]
  refine stage_read (i := 3) (v := ?_) rfl (by kernel_rfl) (by kernel_rfl) (by kernel_rfl) (by kernel_rfl) (by kernel_rfl) (by kernel_rfl) (fun _ _ _ h => h) (Or.inl ⟨by kernel_rfl, ?_⟩) ?_
  rotate_left
  · (intro wS hwS; obtain ⟨hcS, hfS, hhS⟩ := bcell hwS; go_simp; try (first | (with_reducible rfl) | rw [if_pos (by omega)] | rw [if_neg (by omega)]))
  try simp only [Act.put, List.getElem_toArray, List.getElem_cons_succ, List.getElem_cons_zero, List.setIfInBounds_toArray, List.set_cons_zero, List.set_cons_succ]
  refine stage_read (i := 4) (v := ?_) rfl (by kernel_rfl) (by kernel_rfl) (by kernel_rfl) (by kernel_rfl) (by kernel_rfl) (by kernel_rfl) (fun _ _ _ h => h) (Or.inl ⟨by kernel_rfl, ?_⟩) ?_
  rotate_left
  · (intro wS hwS; obtain ⟨hcS, hfS, hhS⟩ := bcell hwS; go_simp; try (first | (with_reducible rfl) | rw [if_pos (by omega)] | rw [if_neg (by omega)]))
  try simp only [Act.put, List.getElem_toArray, List.getElem_cons_succ, List.getElem_cons_zero, List.setIfInBounds_toArray, List.set_cons_zero, List.set_cons_succ]
  refine stage_read (i := 5) (v := ?_) rfl (by kernel_rfl) (by kernel_rfl) (by kernel_rfl) (by kernel_rfl) (by kernel_rfl) (by kernel_rfl) (fun _ _ _ h => h) (Or.inl ⟨by kernel_rfl, ?_⟩) ?_
  rotate_left
  · (intro wS hwS; obtain ⟨hcS, hfS, hhS⟩ := bcell hwS; go_simp; try (first | (with_reducible rfl) | rw [if_pos (by omega)] | rw [if_neg (by omega)]))
  try simp only [Act.put, List.getElem_toArray, List.getElem_cons_succ, List.getElem_cons_zero, List.setIfInBounds_toArray, List.set_cons_zero, List.set_cons_succ]
  refine stage_one 6 (by kernel_rfl) rfl (by kernel_rfl) (fun K hK => ?_)
  go_simp
  have hb3 := (Below.refl w2.heap.size w2).alloc (Nat.le_refl _) (.cells #[.int .i64 r.code, .int .i64 r.rev, .string r.val, .slice r.A r.n r.c] 49)
  refine hK.out _ _ (hb3) ?_
  clear hK K
  try simp only [Act.put, List.getElem_toArray, List.getElem_cons_succ, List.getElem_cons_zero, List.setIfInBounds_toArray, List.set_cons_zero, List.set_cons_succ]
  have h0 := h0.below hb3
  have hL := own_mod HL.out ((Mod.refl (fun _ _ => False) w2).below hb3) (by simp)
  have hT := own_mod HT.out ((Mod.refl (fun _ _ => False) w2).below hb3) (by simp)
  have hP := At.below HP.out hb3
  have hM := HM.out.below hb3
  have hN := Rd.lit (w := w2) (t := 49) (n := 1) (cs := r.row) rfl (by simp [maxLen]) (by omega : 0 < 4)
  have hwb := hM.size
  have hnt := hT.1
  rw [flat_length Res.row_length] at hnt
  have hs3 : B ≤ w2.heap.size + 1 := by omega
  have hs4 : (World.alloc w2 (.cells #[.int .i64 r.code, .int .i64 r.rev, .string r.val, .slice r.A r.n r.c] 49)).heap.size = w2.heap.size + 1 := by simp
  rw [← hs4] at hs3
  unfold Res.row at hN
  clear hb3 HL HT HP HM c0 c1 c2 f0 f1 f2 b0 b1 b2 b3 lr hr0 hs4
  generalize hg2 : w2.heap.size = g2 at *
  generalize World.alloc _ _ = w3 at *
  clear hg2
  refine stage_end (by kernel_rfl) rfl (fun K hK => ?_)
  rw [if_pos (by kernel_rfl)]
  obtain ⟨i0, hi0, hz0, hz1, hz2⟩ := info_parts info_res
  refine oper_app _ (.tmp 8) (.tmp 10) 30 rfl B 49 i0 _ 4 56 Try.underlying30 hi0 hz0 hz1 hz2 rfl (by omega) Ad nt ct _ rfl hT _ _ 1 1 _ rfl hN (by simp [Value.oneCell']) (by omega) (by simp only [maxLen]; omega) hs3 ?_
  intro A2 q2 w4 hT4 hG4 hl4 _
  have hm4 := grown_mod hG4
  have hni : ∀ i o, w3.heap[i]? = some o → (Value.slice Ad nt ct).ownBlock = some i → IsT 49 o := fun i o ho hi => (own_isT hT hi ho).2
  have hA4 := hm4.at h0 (fun e => ne_types.2.2 (hni gc _ h0 e))
  have hP4 := hm4.at hP (fun e => ne_types.1 (hni gp _ hP e))
  have hL4 := own_mod hL hm4 (fun i o ho hi hit e => by have := hni i o ho e; exact ne_types_l.1 ((isT_uniq hit this)))
  have hM4 := hM.step hm4 (fun i o hi ho e => .inr (.inr (own_isT hT0.out e ho)))
  refine hK.out _ _ ?_
  clear hK K
  try simp only [Act.put, List.getElem_toArray, List.getElem_cons_succ, List.getElem_cons_zero, List.setIfInBounds_toArray, List.set_cons_zero, List.set_cons_succ]
  clear hm4 hni h0 hP hL hM hT hG4 hl4 hN i0 hi0 hz0 hz1 hz2 hs3 hT0
  obtain ⟨⟨c0, c1, c2⟩, f0, f1, f2⟩ := at3 hA4
  have l0 := hA4.lt
  have HL := Lib.hid hL4
  have HT := Lib.hid hT4
  have HP := Lib.hid hP4
  have HM := Lib.hid hM4
  clear hL4 hT4 hP4 hM4
  refine stage 10 ?_
  refine stage_read (i := 8) (v := ?_) rfl (by kernel_rfl) (by kernel_rfl) (by kernel_rfl) (by kernel_rfl) (by kernel_rfl) (by kernel_rfl) (fun _ _ _ h => h) (Or.inl ⟨by kernel_rfl, ?_⟩) ?_
  rotate_left
  · (intro wS hwS; obtain ⟨hcS, hfS, hhS⟩ := bcell hwS; go_simp; try (first | (with_reducible rfl) | rw [if_pos (by omega)] | rw [if_neg (by omega)]))
  try simp only [Act.put, List.getElem_toArray, List.getElem_cons_succ, List.getElem_cons_zero, List.setIfInBounds_toArray, List.set_cons_zero, List.set_cons_succ]
  refine stage_read (i := 9) (v := ?_) rfl (by kernel_rfl) (by kernel_rfl) (by kernel_rfl) (by kernel_rfl) (by kernel_rfl) (by kernel_rfl) (fun _ _ _ h => h) (Or.inl ⟨by kernel_rfl, ?_⟩) ?_
  rotate_left
  · (intro wS hwS; obtain ⟨hcS, hfS, hhS⟩ := bcell hwS; go_simp; try (first | (with_reducible rfl) | rw [if_pos (by omega)] | rw [if_neg (by omega)]))
  try simp only [Act.put, List.getElem_toArray, List.getElem_cons_succ, List.getElem_cons_zero, List.setIfInBounds_toArray, List.set_cons_zero, List.set_cons_succ]
  refine stage_end (by kernel_rfl) rfl (fun K hK => ?_)
  go_simp
  refine hK.out _ _ ?_
  clear hK K
  try simp only [Act.put, List.getElem_toArray, List.getElem_cons_succ, List.getElem_cons_zero, List.setIfInBounds_toArray, List.set_cons_zero, List.set_cons_succ]
  first | refine wpAnyT_done (by kernel_rfl) ?_ _ | refine wpAny_done (by kernel_rfl) ?_ _
  have hm5 := grown_mod (grown_set w4 gc 2 (.slice A2 (nt + 1) q2))
  have hA5 := hA4.set 2 (.slice A2 (nt + 1) q2)
  have hP5 := hm5.at HP.out (fun e => by injection e with e; exact absurd e (hA4.ne HP.out ne_types.2.1.symm))
  have hL5 := own_mod HL.out hm5 (fun i o ho hi hit e => isT_at hA4 ho hit ne_types_l.2.1 (Option.some.inj e).symm)
  have hT5 := own_mod HT.out hm5 (fun i o ho hi hit e => isT_at hA4 ho hit ne_types.2.2.symm (Option.some.inj e).symm)
  have hM5 := HM.out.step hm5 (fun i o hi ho e => by injection e with e; exact .inl e.symm)
  clear hm5 hA4 HP HL HT HM c0 c1 c2 f0 f1 f2 l0
  generalize World.setCell _ _ _ = w5 at *
  have hC : ChainAt w5 gc gp B L (rs ++ [r]) Al nl cl A2 (nt + 1) q2 := ⟨hA5, hL5, by rw [List.flatMap_append]; simpa [Res.row] using hT5, hbc, hbp, hlen, by simp; omega⟩
  clear hA5 hL5 hT5
  have HM := Lib.hid hM5
  have HC := Lib.hid hC
  have HP := Lib.hid hP5
  clear hM5 hC hP5
  by_cases hl : rs.length + 1 < L.length
  · have hnx := next_yes gc gp B L (rs ++ [r]) Al A2 nl cl (nt + 1) q2 o f a n w5 HC.out HP.out (rs.length + 1) (by simp) hl
    have HX := Lib.hid hnx
    clear hnx
    go_wp2_with fail
    refine HX.out.mono ?_
    rintro e w6 ⟨rfl, hp6, hM6⟩
    go_wp2_with fail
    go_end0
    exact ⟨rfl, ⟨_, _, _, HC.out.mod hM6 HP.out⟩, hp6, HM.out.step hM6 fun i o hi ho e => .inr (.inl e)⟩
  · have hnx := next_no gc gp B L (rs ++ [r]) Al A2 nl cl (nt + 1) q2 w5 HC.out (by simp; omega)
    have HX := Lib.hid hnx
    clear hnx
    go_wp2_with fail
    refine HX.out.mono ?_
    rintro e w6 ⟨rfl, hp6, hM6⟩
    go_wp2_with fail
    go_end0
    exact ⟨rfl, ⟨_, _, _, HC.out.mod hM6 HP.out⟩, hp6 _ _ _ _ HP.out, HM.out.step hM6 fun i o hi ho e => .inr (.inl e)⟩
def ProcNext (w : World) (gc gp : Nat) (L : List Ask) (k n : Nat) : Prop := if hl : k < L.length then ProcAt w gp L[k] (hearV gc) true n else ProcAt w gp Ask.zero .nilFunc false n
theorem func_neq (x : Fn) (a b : Array Value) (w : World) : (binOp BinOp.neq 112 (.func x a b) .nilFunc).run Try.prog w = .ok (.bool true) w := by kernel_rfl
def feedL (n : Nat) : List (Nat × Value) := [(0, .int .i64 0), (1, .string ⟨#[]⟩), (2, .string ⟨#[]⟩), (3, .int .i64 0), (4, .string ⟨#[]⟩), (5, .int .i64 0), (6, .nilFunc), (7, .bool false), (8, .int .i64 ((n + 1 : Nat) : Int))]
set_option maxRecDepth 100000 in
set_option maxHeartbeats 2000000 in
theorem feed_idle (g : Nat) (o : Ask) (f : Value) (n : Nat) (r : Res) (w : World) (h : ProcAt w g o f false n) :
    Calls Try.prog 24 #[.pointer (some ⟨g, 0, none⟩), r.v] w fun x w' => x = .returned (.bool false) ∧ Below w.heap.size w w' := by
  have hg : g < w.heap.size := h.lt
  obtain ⟨⟨c0, c1, c2, c3, c4, c5, c6, c7, c8⟩, _⟩ := at9 h
  unfold Res.v Res.row
  go_enter Try.func24, Try.ntmps24
  go_wp2_with fail
  go_ret
  exact ⟨rfl, (Below.refl _ _).alloc (Nat.le_refl _) _⟩
set_option maxRecDepth 100000 in
set_option maxHeartbeats 4000000 in
theorem feed_chain (gc gp B : Nat) (L : List Ask) (rs : List Res) (Al Ad : Option Addr) (nl cl nt ct : Nat) (o : Ask) (n : Nat) (r : Res) (w : World) (h : ChainAt w gc gp B L rs Al nl cl Ad nt ct) (hp : ProcAt w gp o (hearV gc) true n) (hlt : rs.length < 20) (hn : n ≤ 1000000) :
    Calls Try.prog 24 #[.pointer (some ⟨gp, 0, none⟩), r.v] w fun x w' => x = .returned (.bool true) ∧
      (∃ Ad nt ct, ChainAt w' gc gp B L (rs ++ [r]) Al nl cl Ad nt ct) ∧ ProcNext w' gc gp L (rs.length + 1) (n + 1) ∧ Mod (TCond gc gp B) w w' := by
  have h0 := At.alloc hp (.cells r.row.toArray 49)
  have hr0 := At.new w 49 r.row
  have hb := (Below.refl w.heap.size w).alloc (Nat.le_refl _) (.cells r.row.toArray 49)
  have hC : ChainAt (w.alloc (.cells r.row.toArray 49)) gc gp B L rs Al nl cl Ad nt ct := h.mod ((Mod.refl _ w).below hb) hp
  have hM := (Mod.refl (TCond gc gp B) w).below hb
  have hne : w.heap.size ≠ gp := by have := At.lt hp; omega
  have hear := fun w' A' n' c' hc hp' => hear_any gc gp B L rs Al A' nl cl n' c' Ask.zero .nilFunc false (n + 1) r w' hc hp' hlt
  clear h hp hb
  unfold Res.v at hear ⊢
  unfold hearV procL at h0
  unfold Res.row at *
  have HM := Lib.hid hM
  have HC := Lib.hid hC
  have HH := Lib.hid hear
  clear hM hC hear
  have hq := fun x a b w => func_neq x a b w
  go_enter Try.func24, Try.ntmps24
  go_upto_region 1 with fail
  generalize World.alloc _ _ = w1 at *
  obtain ⟨⟨c0, c1, c2, c3, c4, c5, c6, c7, c8⟩, f0, f1, f2, f3, f4, f5, f6, f7, f8⟩ := at9 h0
  obtain ⟨⟨b0, b1, b2, b3⟩, _⟩ := at4 hr0
  have H0 := Lib.hid h0
  have HR := Lib.hid hr0
  clear h0 hr0
  go_upto_region 6 with fail
  have hmany : At (setMany w1 gp (feedL n)) gp 114 (procL Ask.zero .nilFunc false (n + 1)) ∧ w1.grownBy (setMany w1 gp (feedL n)) (some gp) := H0.out.many (feedL n)
  have hm2 := grown_mod hmany.2
  have hP2 : ProcAt (setMany w1 gp (feedL n)) gp Ask.zero .nilFunc false (n + 1) := hmany.1
  have hC2 : ChainAt (setMany w1 gp (feedL n)) gc gp B L rs Al nl cl Ad nt ct := HC.out.mod (hm2.mono fun i o _ _ e => (Option.some.inj e).symm) H0.out
  have hM2 := HM.out.step hm2 fun i o _ _ e => .inr (.inl (Option.some.inj e).symm)
  have hR2 := hm2.at HR.out (fun e => hne (Option.some.inj e).symm)
  simp only [setMany, feedL, Int.natCast_add, Int.cast_ofNat_Int] at hP2 hC2 hM2 hR2
  clear hmany hm2 H0 HC HM HR c0 c1 c2 c3 c4 c5 c6 c7 c8 f0 f1 f2 f3 f4 f5 f6 f7 f8 b0 b1 b2 b3
  generalize World.setCell _ _ _ = w2 at *
  obtain ⟨⟨b0, b1, b2, b3⟩, _⟩ := at4 hR2
  have HM := Lib.hid hM2
  have HX := HH.out _ _ _ _ hC2 hP2
  have HY := Lib.hid HX
  clear HX hM2 hC2 hP2 hR2 HH
  go_wp2_with fail
  refine HY.out.mono ?_
  rintro x w3 ⟨rfl, hC3, hP3, hM3⟩
  go_wp2_with fail
  go_ret
  exact ⟨rfl, hC3, hP3, HM.out.trans hM3⟩
end Go.Proofs.Ytcpkaolfafeojaa
