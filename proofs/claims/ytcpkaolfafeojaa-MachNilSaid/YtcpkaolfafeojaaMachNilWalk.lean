
/- Chapter 19: the walk of MachNil. -/
import Derived.Test.YtcpkaolfafeojaaAwake19
namespace Go.Proofs.Ytcpkaolfafeojaa
set_option linter.unusedVariables false
set_option linter.unusedSimpArgs false
open Go.RowKit
theorem func_neq_nil (w : World) : (binOp BinOp.neq 74 .nilFunc .nilFunc).run Try.prog w = .ok (.bool false) w := by kernel_rfl
theorem func_neq_nil' (w : World) : (binOp BinOp.neq 112 .nilFunc .nilFunc).run Try.prog w = .ok (.bool false) w := by kernel_rfl
theorem run_nil (k : Int) (w : World) (hk : 0 < k) : Calls Try.prog 33 #[.pointer none, .nilFunc, .int .i64 k] w fun x w' => x = .returned (.bool true) ∧ Below w.heap.size w w' := by
  have hq := func_neq_nil
  have hop := op_nil w
  unfold Ask.v Ask.cells Ask.zero at hop
  have HO := Lib.hid hop
  clear hop
  go_enter Try.func33, Try.ntmps33
  go_wp2_with fail
  refine wp_loop_rounds 1 ?_
  rw [rounds_succ]
  go_wp2_with fail
  refine HO.out.mono ?_
  rintro x w1 ⟨rfl, hb⟩
  go_wp2_with fail
  go_ret
  exact ⟨rfl, hb.alloc hb.size _⟩
theorem run_some (g : Nat) (o : Ask) (f : Value) (n : Nat) (k : Int) (w : World) (hk : 0 < k) (hp : ProcAt w g o f true n) : Calls Try.prog 33 #[.pointer (some ⟨g, 0, none⟩), .nilFunc, .int .i64 k] w fun x w' => x = .returned (.bool false) ∧ Below w.heap.size w w' := by
  have hq := func_neq_nil
  have hop := op_yes g o f n w hp
  unfold Ask.v Ask.cells at hop
  have HO := Lib.hid hop
  clear hop hp
  go_enter Try.func33, Try.ntmps33
  go_wp2_with fail
  refine wp_loop_rounds 1 ?_
  rw [rounds_succ]
  go_wp2_with fail
  refine HO.out.mono ?_
  rintro x w1 ⟨rfl, hb⟩
  go_wp2_with fail
  go_ret
  exact ⟨rfl, hb.alloc hb.size _⟩
theorem feed_nilf (gp : Nat) (o : Ask) (n : Nat) (r : Res) (w : World) (hp : ProcAt w gp o .nilFunc true n) (hn : n ≤ 1000000) :
    Calls Try.prog 24 #[.pointer (some ⟨gp, 0, none⟩), r.v] w fun x w' => x = .returned (.bool true) ∧ ProcAt w' gp Ask.zero .nilFunc false (n + 1) ∧ Mod (fun k _ => k = gp) w w' := by
  have h0 := At.alloc hp (.cells r.row.toArray 49)
  have hb := (Below.refl w.heap.size w).alloc (Nat.le_refl _) (.cells r.row.toArray 49)
  have hM := (Mod.refl (fun k _ => k = gp) w).below hb
  have hq := func_neq_nil'
  clear hp hb
  unfold procL at h0
  unfold Res.v
  unfold Res.row at *
  have HM := Lib.hid hM
  clear hM
  go_enter Try.func24, Try.ntmps24
  go_upto_region 1 with fail
  generalize World.alloc _ _ = w1 at *
  obtain ⟨⟨c0, c1, c2, c3, c4, c5, c6, c7, c8⟩, f0, f1, f2, f3, f4, f5, f6, f7, f8⟩ := at9 h0
  have H0 := Lib.hid h0
  clear h0
  go_wp2_with fail
  go_ret
  have hmany : At (setMany w1 gp (feedL n)) gp 114 (procL Ask.zero .nilFunc false (n + 1)) ∧ w1.grownBy (setMany w1 gp (feedL n)) (some gp) := H0.out.many (feedL n)
  exact ⟨rfl, hmany.1, HM.out.step (grown_mod hmany.2) fun i o _ _ e => (Option.some.inj e).symm⟩
set_option maxRecDepth 100000 in
set_option maxHeartbeats 4000000 in
theorem machNil_walk {o : Ask} (w : World) : Calls Try.prog 5 #[o.v] w fun x w' => x = .returned (.bool true) ∧ Below w.heap.size w w' := by
  have hx0 := At.new w 40 o.row
  have hb0 := (Below.refl w.heap.size w).alloc (Nat.le_refl _) (.cells o.row.toArray 40)
  have hours := ours9_any o
  generalize hoc : cutA o = oc at *
  unfold Ask.v Ask.cells Ask.row at *
  have HX := Lib.hid hx0
  have HB := Lib.hid hb0
  have HO := Lib.hid hours
  clear hx0 hb0 hours hoc
  go_enter Try.func5, Try.ntmps5
  go_upto_region 2 with fail
  have hx0 := HX.out
  have hb := HB.out
  skip
  generalize World.alloc _ _ = w1 at *
  obtain ⟨⟨x0, x1, x2, x3, x4, x5⟩, _⟩ := at6 hx0
  clear HX HB
  go_wp2_with fail
  refine (HO.out _).mono ?_
  rintro x w2 ⟨rfl, hb2⟩
  replace hb := chain hb hb2
  clear hb2 hx0 x0 x1 x2 x3 x4 x5 HO
  go_upto_region 3 with fail
  obtain ⟨hx, hy, hb3⟩ := two_at w2 37 oc.row 40 oc.row
  replace hb := chain hb hb3
  unfold Ask.row at hx hb
  clear hb3 hy
  generalize World.alloc (World.alloc _ _) _ = w3 at *
  generalize w2.heap.size = gx at *
  obtain ⟨⟨x0, x1, x2, x3, x4, x5⟩, _⟩ := at6 hx
  go_wp2_with fail
  refine (ask_nil oc _ _).mono ?_
  rintro x w4 ⟨rfl, hb4⟩
  replace hb := chain hb hb4
  replace hx := hx.below hb4
  clear hb4 x0 x1 x2 x3 x4 x5
  go_wp2_with fail
  refine (op_nil _).mono ?_
  rintro x w5 ⟨rfl, hb5⟩
  replace hb := chain hb hb5
  replace hx := hx.below hb5
  clear hb5
  unfold Ask.v Ask.cells Ask.zero
  go_upto_region 5 with fail
  have hb6 := (one_at w5 37 Ask.zero.row).2
  replace hb := chain hb hb6
  replace hx := hx.below hb6
  unfold Ask.row Ask.zero at hb hx
  clear hb6
  generalize World.alloc _ _ = w6 at *
  go_wp2_with fail
  refine (mnew_any _).mono ?_
  rintro x w7 ⟨rfl, hP, hw7⟩
  have hb7 : Below w6.heap.size w6 w7 := by subst hw7; exact (Below.refl _ _).alloc (Nat.le_refl _) _
  have hge : w.heap.size ≤ w6.heap.size := hb.size
  replace hb := chain hb hb7
  replace hx := hx.below hb7
  clear hw7 hb7
  generalize w6.heap.size = gq at *
  obtain ⟨⟨x0, x1, x2, x3, x4, x5⟩, _⟩ := at6 hx
  have HP := Lib.hid hP
  clear hP
  go_wp2_with fail
  refine (ask_any gq oc Ask.zero .nilFunc .nilFunc false 0 w7 HP.out (.inl rfl)).mono ?_
  rintro x w8 ⟨rfl, hP, hm8⟩
  replace hb := hb.trans (hm8.toBelow (B := w.heap.size) (fun i o hi e => by omega) hb.size)
  clear HP hm8 x0 x1 x2 x3 x4 x5 hx
  go_wp2_with fail
  refine (op_yes gq _ _ _ _ hP).mono ?_
  rintro x w9 ⟨rfl, hb9⟩
  replace hb := chain hb hb9
  replace hP : ProcAt w9 gq oc .nilFunc true 0 := At.below hP hb9
  clear hb9
  unfold Ask.v Ask.cells
  go_upto_region 8 with fail
  have hb10 := (one_at w9 37 oc.row).2
  replace hb := chain hb hb10
  replace hP := At.below hP hb10
  unfold Ask.row at hb hP
  clear hb10
  generalize World.alloc _ _ = w10 at *
  have HP := Lib.hid hP
  clear hP
  go_wp2_with fail
  refine (run_some gq oc .nilFunc 0 9 w10 (by omega) HP.out).mono ?_
  rintro x w11 ⟨rfl, hb11⟩
  replace hb := chain hb hb11
  replace HP := Lib.hid (At.below HP.out hb11)
  clear hb11
  go_wp2_with fail
  refine (feed_nil _).mono ?_
  rintro x w12 ⟨rfl, hb12⟩
  replace hb := chain hb hb12
  replace HP := Lib.hid (At.below HP.out hb12)
  clear hb12
  go_wp2_with fail
  refine (steps_nil _).mono ?_
  rintro x w13 ⟨rfl, rfl⟩
  go_wp2_with fail
  refine (run_nil 3 _ (by omega)).mono ?_
  rintro x w14 ⟨rfl, hb14⟩
  replace hb := chain hb hb14
  replace HP := Lib.hid (At.below HP.out hb14)
  clear hb14
  go_wp2_with fail
  refine (feed_nilf gq oc 0 Res.zero w14 HP.out (by omega)).mono ?_
  rintro x w15 ⟨rfl, hP, hm15⟩
  replace hb := hb.trans (hm15.toBelow (B := w.heap.size) (fun i o hi e => by omega) hb.size)
  clear HP hm15
  have HP := Lib.hid hP
  clear hP
  go_wp2_with fail
  refine (feed_idle gq Ask.zero .nilFunc 1 Res.zero w15 HP.out).mono ?_
  rintro x w16 ⟨rfl, hb16⟩
  replace hb := chain hb hb16
  clear HP hb16
  go_wp2_with fail
  refine (awake19 _).mono ?_
  rintro x w17 ⟨rfl, hb17⟩
  replace hb := chain hb hb17
  clear hb17
  go_wp2_with fail
  go_ret
  exact ⟨rfl, hb⟩
end Go.Proofs.Ytcpkaolfafeojaa
