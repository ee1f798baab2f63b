
/- Chapter 19: what is asked as the program's; the reference's list. -/
import Derived.Test.YtcpkaolfafeojaaAwake19
namespace Go.Proofs.Ytcpkaolfafeojaa
set_option linter.unusedVariables false
set_option linter.unusedSimpArgs false
open Go.RowKit
theorem info_op : (Try.prog.info? 37).map (fun i => (i.zero, i.size, i.bytes)) = some (some (Value.agg #[.int .i64 0, .string ⟨#[]⟩, .string ⟨#[]⟩, .int .i64 0, .string ⟨#[]⟩, .int .i64 0]), 6, 72) := by kernel_rfl
theorem info_rop : (Try.prog.info? 40).map (fun i => (i.zero, i.size, i.bytes)) = some (some (Value.agg #[.int .i64 0, .string ⟨#[]⟩, .string ⟨#[]⟩, .int .i64 0, .string ⟨#[]⟩, .int .i64 0]), 6, 72) := by kernel_rfl
def cutL (L : List Ask) (m : Nat) : List Ask := (L.take m).map cutA
def OwnO (w : World) (B : Nat) (A : Option Addr) (n c : Nat) (L : List Ask) : Prop := w.ownsRow B 37 6 (.slice A n c) n (L.flatMap Ask.row)
def OwnR9 (w : World) (B : Nat) (A : Option Addr) (n c : Nat) (L : List Ask) : Prop := w.ownsRow B 40 6 (.slice A n c) n (L.flatMap Ask.row)
theorem row6_one (o : Ask) : ∀ u ∈ o.row, u.oneCell' = true := by intro u hu; simp [Ask.row] at hu; rcases hu with rfl | rfl | rfl | rfl | rfl | rfl <;> rfl
theorem OwnO.below {w w' : World} {B n c : Nat} {A : Option Addr} {L : List Ask} (h : OwnO w B A n c L) (hb : Below w.heap.size w w') : OwnO w' B A n c L := own_mod h ((Mod.refl (fun _ _ => False) w).below hb) (by simp)
theorem OwnR9.below {w w' : World} {B n c : Nat} {A : Option Addr} {L : List Ask} (h : OwnR9 w B A n c L) (hb : Below w.heap.size w w') : OwnR9 w' B A n c L := own_mod h ((Mod.refl (fun _ _ => False) w).below hb) (by simp)
theorem OwnO.len {w : World} {B n c : Nat} {A : Option Addr} {L : List Ask} (h : OwnO w B A n c L) : n = L.length := by have := h.1; rw [flat_length Ask.row_length] at this; omega
theorem OwnR9.len {w : World} {B n c : Nat} {A : Option Addr} {L : List Ask} (h : OwnR9 w B A n c L) : n = L.length := by have := h.1; rw [flat_length Ask.row_length] at this; omega
theorem app_o {ops : Array Oper} {rest : List Oper} {o : Oper} {a : Act} {w : World} {Q : Exit → Act → World → Prop} (hgd : o.guard = none) (s x : Operand)
    (ho : o.op = .call { callee := .builtin .append, args := #[s, x], argTypes := #[24, 24] })
    {base : Nat} {A' : Option Addr} {n c' : Nat} {L : List Ask} (hs : a.eval s = .slice A' n c') (hown : OwnO w base A' n c' L)
    {B : Nat} {A : Option Addr} {c : Nat} (y : Ask) (hx : a.eval x = .slice A 1 c) (hr : Rd w B 6 A 1 c y.row) (hbase : base ≤ w.heap.size) (hsz : n ≤ 1000000)
    (h : ∀ A2 c2 w', OwnO w' base A2 (n + 1) c2 (L ++ [y]) → w.grownBy w' (Value.slice A' n c').ownBlock → wpList Try.prog ops Q rest (a.put o.dst (.slice A2 (n + 1) c2)) w') : wpList Try.prog ops Q (o :: rest) a w := by
  obtain ⟨i0, hi0, hz0, hz1, hz2⟩ := info_parts info_op
  refine wpList_app w hgd s x _ ho base 37 i0 _ 6 72 Try.underlying24 hi0 hz0 hz1 hz2 rfl (by omega) A' n c' _ hs hown B A 1 c y.row hx hr (row6_one y) ?_ (by omega) (by simp only [maxLen]; omega) hbase
  intro A2 c2 w' h1 h2 _ _
  exact h A2 c2 w' (by unfold OwnO; rw [List.flatMap_append]; simpa using h1) h2
theorem app_ro {ops : Array Oper} {rest : List Oper} {o : Oper} {a : Act} {w : World} {Q : Exit → Act → World → Prop} (hgd : o.guard = none) (s x : Operand)
    (ho : o.op = .call { callee := .builtin .append, args := #[s, x], argTypes := #[22, 22] })
    {base : Nat} {A' : Option Addr} {n c' : Nat} {L : List Ask} (hs : a.eval s = .slice A' n c') (hown : OwnR9 w base A' n c' L)
    {B : Nat} {A : Option Addr} {c : Nat} (y : Ask) (hx : a.eval x = .slice A 1 c) (hr : Rd w B 6 A 1 c y.row) (hbase : base ≤ w.heap.size) (hsz : n ≤ 1000000)
    (h : ∀ A2 c2 w', OwnR9 w' base A2 (n + 1) c2 (L ++ [y]) → w.grownBy w' (Value.slice A' n c').ownBlock → wpList Try.prog ops Q rest (a.put o.dst (.slice A2 (n + 1) c2)) w') : wpList Try.prog ops Q (o :: rest) a w := by
  obtain ⟨i0, hi0, hz0, hz1, hz2⟩ := info_parts info_rop
  refine wpList_app w hgd s x _ ho base 40 i0 _ 6 72 Try.underlying22 hi0 hz0 hz1 hz2 rfl (by omega) A' n c' _ hs hown B A 1 c y.row hx hr (row6_one y) ?_ (by omega) (by simp only [maxLen]; omega) hbase
  intro A2 c2 w' h1 h2 _ _
  exact h A2 c2 w' (by unfold OwnR9; rw [List.flatMap_append]; simpa using h1) h2
theorem cutL_snoc {L : List Ask} {k : Nat} (h : k < L.length) : cutL L k ++ [cutA L[k]] = cutL L (k + 1) := by
  unfold cutL
  rw [List.take_succ_eq_append_getElem h, List.map_append]
  rfl
theorem cutL_length {L : List Ask} {k : Nat} (h : k ≤ L.length) : (cutL L k).length = k := by simp [cutL]; omega
theorem op_ne : (37 : TypeId) ≠ 40 := by decide
def OursRel (w : World) (L : List Ask) (a b i : Value) (wr : World) : Prop :=
  ∃ (k m : Nat) (A1 : Option Addr) (c1 : Nat) (A2 : Option Addr) (c2 : Nat), i = .int .i64 (k : Int) ∧ k ≤ L.length ∧ m = min k 20 ∧ a = .slice A1 m c1 ∧ b = .slice A2 m c2 ∧ OwnO wr w.heap.size A1 m c1 (cutL L m) ∧ OwnR9 wr w.heap.size A2 m c2 (cutL L m) ∧ Below w.heap.size w wr
set_option maxRecDepth 100000 in
set_option maxHeartbeats 4000000 in
theorem ours19_any (A : Option Addr) (n c : Nat) (L : List Ask) (w : World) (hr : Rd w w.heap.size 6 A n c (L.flatMap Ask.row)) :
    Calls Try.prog 18 #[.slice A n c] w fun x w' => ∃ A1 c1 A2 c2, x = .returned (.tuple #[.slice A1 (min L.length 20) c1, .slice A2 (min L.length 20) c2]) ∧ OwnO w' w.heap.size A1 (min L.length 20) c1 (cutL L (min L.length 20)) ∧ OwnR9 w' w.heap.size A2 (min L.length 20) c2 (cutL L (min L.length 20)) ∧ Below w.heap.size w w' := by
  have hn := Rd.count Ask.row_length (by omega) hr
  have hmax := hr.max
  have hle := hr.le
  unfold maxLen at hmax
  obtain rfl : L.length = n := hn
  have HR := Lib.hid hr
  clear hr
  go_enter Try.func18, Try.ntmps18
  go_wp2_with fail
  go_loopw [4, 5, 12] (fun a b i wr => OursRel w L a b i wr) (fun a b i _ => L.length - (intOf i).toNat)
  case atStart => exact ⟨0, 0, none, 0, none, 0, rfl, Nat.zero_le _, rfl, rfl, rfl, World.ownsRow_nil _ _ _ _, World.ownsRow_nil _ _ _ _, Below.refl _ _⟩
  case round =>
    obtain ⟨k, m, A1, c1, A2, c2, rfl, hk, hm, rfl, rfl, h1, h2, hb⟩ := hrel
    by_cases hlt : k < L.length
    · obtain ⟨g, off, e, hg, he⟩ := HR.out.elem Ask.row_length (by omega) (k := k) hlt
      subst e
      have hbc := bcell (Below.mono (B := w.heap.size) hb (Nat.le_refl _))
      have e0 := (hbc.1 _ _ hg).trans (he 0 _ rfl)
      have e1 := (hbc.1 _ _ hg).trans (he 1 _ rfl)
      have e2 := (hbc.1 _ _ hg).trans (he 2 _ rfl)
      have e3 := (hbc.1 _ _ hg).trans (he 3 _ rfl)
      have e4 := (hbc.1 _ _ hg).trans (he 4 _ rfl)
      have e5 := (hbc.1 _ _ hg).trans (he 5 _ rfl)
      rw [Nat.add_zero] at e0
      have hsn := cutL_snoc hlt
      generalize L[k] = y at *
      clear he hbc
      have hbz := hb.size
      have H1 := Lib.hid h1
      have H2 := Lib.hid h2
      have HB := Lib.hid hb
      have HS := Lib.hid hsn
      clear h1 h2 hb hsn
      by_cases h20 : k < 20
      · obtain rfl : m = k := by omega
        have HM := Lib.hid hm
        clear hm
        have hours := ours9_any y
        generalize cutA y = oc at *
        unfold Ask.v Ask.cells at hours
        have HO := Lib.hid hours
        clear hours
        have hba := (one_at wr 40 y.row).2
        have H1 := Lib.hid (H1.out.below hba)
        have H2 := Lib.hid (H2.out.below hba)
        have HB := Lib.hid (chain HB.out hba)
        unfold Ask.row at H1 H2 HB
        clear hba
        go_wp2_with fail
        refine (HO.out _).mono ?_
        rintro x w2 ⟨rfl, hb2⟩
        replace H1 := Lib.hid (H1.out.below hb2)
        replace H2 := Lib.hid (H2.out.below hb2)
        replace HB := Lib.hid (chain HB.out hb2)
        clear hb2 HO e0 e1 e2 e3 e4 e5
        go_upto_region 8 with fail
        obtain ⟨hx, hy, hb3⟩ := two_at w2 37 oc.row 40 oc.row
        replace H1 := Lib.hid (H1.out.below hb3)
        replace H2 := Lib.hid (H2.out.below hb3)
        replace HB := Lib.hid (chain HB.out hb3)
        unfold Ask.row at hx hy
        unfold Ask.row at H1 H2 HB
        clear hb3
        generalize World.alloc (World.alloc _ _) _ = w3 at *
        obtain ⟨⟨x0, x1, x2, x3, x4, x5⟩, _⟩ := at6 hx
        have hz3 := HB.out.size
        have hbn := (one_at w3 37 oc.row).2
        have hN := Rd.lit (w := w3) (t := 37) (n := 1) (cs := oc.row) rfl (by simp [maxLen]) (by omega : 0 < 6)
        have hO := H1.out.below hbn
        have h2 := H2.out.below hbn
        have hB := chain HB.out hbn
        replace hy := hy.below hbn
        have hz4 := hB.size
        clear H1 H2 HB hbn hx hz3
        unfold Ask.row at hN h2 hB hy hO hz4
        go_upto_region 9 with (at_builtin; refine app_o rfl (.tmp 24) (.tmp 26) rfl rfl hO oc rfl hN hz4 (by omega) ?_; intro A3 c3 w4 h14 hG4)
        have h24 : OwnR9 w4 w.heap.size A2 m c2 (cutL L m) := own_kept h2 hO op_ne.symm hG4
        have hB4 := hB.trans (below_of_app hO hG4 hz4)
        have hy4 := hy.own hO hG4 op_ne.symm
        clear hy hO hN hB h2 hG4 hz4 x0 x1 x2 x3 x4 x5
        obtain ⟨⟨x0, x1, x2, x3, x4, x5⟩, _⟩ := at6 hy4
        have hbn := (one_at w4 40 oc.row).2
        have hN := Rd.lit (w := w4) (t := 40) (n := 1) (cs := oc.row) rfl (by simp [maxLen]) (by omega : 0 < 6)
        have hO := h14.below hbn
        have h2 := h24.below hbn
        have hB := chain hB4 hbn
        have hz4 := hB.size
        clear h14 h24 hB4 hbn hy4
        unfold Ask.row at hN h2 hB hO hz4
        go_upto_region 10 with (at_builtin; refine app_ro rfl (.tmp 28) (.tmp 30) rfl rfl h2 oc rfl hN hz4 (by omega) ?_; intro A4 c4 w5 h25 hG5)
        have h15 : OwnO w5 w.heap.size A3 (m + 1) c3 (cutL L m ++ [oc]) := own_kept hO h2 op_ne hG5
        have hB5 := hB.trans (below_of_app h2 hG5 hz4)
        clear hO h2 hB hG5 hN hz4 x0 x1 x2 x3 x4 x5
        rw [HS.out] at h15 h25
        go_wp2_with fail
        go_roundw
        case rel => exact ⟨m + 1, m + 1, A3, c3, A4, c4, by go_num, by omega, by omega, rfl, rfl, h15, h25, hB5⟩
        case measure => simp [intOf]; omega
      · obtain rfl : m = 20 := by omega
        have hba := (one_at wr 40 y.row).2
        have h1 := H1.out.below hba
        have h2 := H2.out.below hba
        have hB := chain HB.out hba
        unfold Ask.row at h1 h2 hB
        clear hba H1 H2 HB
        go_wp2_with fail
        go_roundw
        case rel => exact ⟨k + 1, 20, A1, c1, A2, c2, by go_num, by omega, by omega, rfl, rfl, h1, h2, hB⟩
        case measure => simp [intOf]; omega
    · obtain rfl : k = L.length := by omega
      subst hm
      have H1 := Lib.hid h1
      have H2 := Lib.hid h2
      have HB := Lib.hid hb
      clear h1 h2 hb
      go_wp2_with fail
      go_ret2
      exact ⟨A1, c1, A2, c2, rfl, H1.out, H2.out, HB.out⟩
end Go.Proofs.Ytcpkaolfafeojaa
namespace Go.Proofs.Ytcpkaolfafeojaa
set_option linter.unusedVariables false
set_option linter.unusedSimpArgs false
open Go.RowKit
def ListC (A : Option Addr) (n c k : Nat) : List Value := [.slice A n c, .int .i64 (k : Int)]
def rowP (o : Ask) : List (Nat × Value) := [(0, .int .i64 o.kind), (1, .string o.key), (2, .string o.val), (3, .int .i64 o.rev), (4, .string o.iff), (5, .int .i64 o.ifrev)]
set_option maxRecDepth 100000 in
set_option maxHeartbeats 1000000 in
theorem rop_no (g : Nat) (A : Option Addr) (n c k : Nat) (w : World) (h : At w g 35 (ListC A n c k)) (hk : n ≤ k) :
    Calls Try.prog 22 #[.pointer (some ⟨g, 0, none⟩)] w fun x w' => x = .returned (.tuple #[Ask.zero.v, .bool false]) ∧ Below w.heap.size w w' := by
  unfold ListC at h
  have h1 := h.alloc (.cells Ask.zero.row.toArray 40)
  obtain ⟨hx, hb⟩ := one_at w 40 Ask.zero.row
  have hd : decide (n ≤ k) = true := by simpa using hk
  have hi : (n : Int) ≤ (k : Int) := by omega
  unfold Ask.v Ask.cells
  unfold Ask.row at *
  unfold Ask.zero at *
  have H1 := Lib.hid h1
  have HB := Lib.hid hb
  have HX := Lib.hid hx
  clear h h1 hb hx
  go_enter Try.func22, Try.ntmps22
  go_upto_region 1 with fail
  have h1 := H1.out
  have hb := HB.out
  have hx := HX.out
  clear H1 HB HX
  generalize World.alloc _ _ = w1 at *
  obtain ⟨⟨c0, c1⟩, _⟩ := at2 h1
  go_quiet (fail)
  replace hb := hb.trans (Below.mono (below_drewN (Below.refl w1.heap.size w1) nq) hb.size)
  replace hx := hx.drewN nq
  clear h1 c0 c1
  generalize World.drewN _ _ = w2 at *
  obtain ⟨⟨x0, x1, x2, x3, x4, x5⟩, f0, f1, f2, f3, f4, f5⟩ := at6 hx
  have hgr := (hx.many (rowP Ask.zero)).2
  have hmm := (hx.many (rowP Ask.zero)).1
  replace hb := chainG hb hgr (Nat.le_refl _)
  simp only [rowP, Ask.zero, setMany, setL, List.set_cons_zero, List.set_cons_succ] at hb hmm
  obtain ⟨⟨y0, y1, y2, y3, y4, y5⟩, _⟩ := at6 hmm
  have HB := Lib.hid hb
  clear hb hgr hmm hx
  go_wp2_with fail
  exact bodyPost_ret (v := .tuple #[.agg #[.int .i64 0, .string ⟨#[]⟩, .string ⟨#[]⟩, .int .i64 0, .string ⟨#[]⟩, .int .i64 0], .bool false]) (by simp [results, Try.results22, go_sem, y0, y1, y2, y3, y4, y5]) rfl ⟨rfl, HB.out⟩
set_option maxRecDepth 100000 in
set_option maxHeartbeats 1000000 in
theorem rop_yes (g : Nat) (B : Nat) (A : Option Addr) (n c k : Nat) (L : List Ask) (w : World) (h : At w g 35 (ListC A n c k)) (hl : OwnR9 w B A n c L) (hk : k < L.length) (hL : L.length ≤ 20) :
    Calls Try.prog 22 #[.pointer (some ⟨g, 0, none⟩)] w fun x w' => x = .returned (.tuple #[L[k].v, .bool true]) ∧ Below w.heap.size w w' := by
  unfold ListC at h
  have h1 := h.alloc (.cells Ask.zero.row.toArray 40)
  obtain ⟨hx, hb⟩ := one_at w 40 Ask.zero.row
  have hl1 := hl.below hb
  have hn := hl.len
  have hd : decide (n ≤ k) = false := by simp; omega
  have hi : ¬ (n : Int) ≤ (k : Int) := by omega
  have hi2 : (k : Int) < (n : Int) := by omega
  have hkn : k < n := by omega
  generalize hy : L[k] = y at *
  have HY := Lib.hid hy
  clear hy
  unfold Ask.v Ask.cells
  have H1 := Lib.hid h1
  have HB := Lib.hid hb
  have HX := Lib.hid hx
  have HL := Lib.hid hl1
  clear h h1 hb hx hl hl1 hn
  unfold Ask.row at H1 HB HX HL
  unfold Ask.zero at H1 HB HX HL
  go_enter Try.func22, Try.ntmps22
  go_upto_region 1 with fail
  have h1 := H1.out
  have hb := HB.out
  have hx := HX.out
  have hl := HL.out
  clear H1 HB HX HL
  generalize World.alloc _ _ = w1 at *
  obtain ⟨⟨c0, c1⟩, _⟩ := at2 h1
  go_quiet (fail)
  replace hb := hb.trans (Below.mono (below_drewN (Below.refl w1.heap.size w1) nq) hb.size)
  replace hx := hx.drewN nq
  replace h1 := h1.drewN nq
  replace hl : OwnR9 (w1.drewN nq) B A n c L := hl
  clear c0 c1
  generalize World.drewN _ _ = w2 at *
  go_wp2_with fail
  refine region_any (by kernel_rfl) ?_
  change wpAny _ _ _ _ _ _ _ (World.drew _)
  replace hb := hb.drew
  replace hx := hx.drew
  replace h1 := h1.drew
  replace hl : OwnR9 w2.drew B A n c L := hl
  generalize World.drew _ = w3 at *
  obtain ⟨⟨c0, c1⟩, _⟩ := at2 h1
  obtain ⟨⟨x0, x1, x2, x3, x4, x5⟩, f0, f1, f2, f3, f4, f5⟩ := at6 hx
  obtain ⟨ge, off, e, hge, he⟩ := (Rd.of_own hl).elem Ask.row_length (by omega) (k := k) hk
  subst e
  rw [HY.out] at he
  have l1 := h1.lt
  have e0 := he 0 _ rfl
  have e1 := he 1 _ rfl
  have e2 := he 2 _ rfl
  have e3 := he 3 _ rfl
  have e4 := he 4 _ rfl
  have e5 := he 5 _ rfl
  rw [Nat.add_zero] at e0
  clear he
  have hgr := (hx.many (rowP y)).2
  have hmm := (hx.many (rowP y)).1
  replace hb := chainG hb hgr (Nat.le_refl _)
  simp only [rowP, setMany, setL, List.set_cons_zero, List.set_cons_succ] at hb hmm
  have HB := Lib.hid hb
  have HM := Lib.hid hmm
  clear hb hgr hmm hx hl h1
  refine stage 10 ?_
  refine stage_read (i := 0) (v := ?_) rfl (by kernel_rfl) (by kernel_rfl) (by kernel_rfl) (by kernel_rfl) (by kernel_rfl) (by kernel_rfl) (fun _ _ _ h => h) (Or.inl ⟨by kernel_rfl, ?_⟩) ?_
  rotate_left
  · (intro wS hwS; obtain ⟨hcS, hfS, hhS⟩ := bcell hwS; go_simp; try (first | (with_reducible rfl) | rw [if_pos (by omega)] | rw [if_neg (by omega)]))
  try simp only [Act.put, List.getElem_toArray, List.getElem_cons_succ, List.getElem_cons_zero, List.setIfInBounds_toArray, List.set_cons_zero, List.set_cons_succ]
  refine stage_read (i := 1) (v := ?_) rfl (by kernel_rfl) (by kernel_rfl) (by kernel_rfl) (by kernel_rfl) (by kernel_rfl) (by kernel_rfl) (fun _ _ _ h => h) (Or.inl ⟨by kernel_rfl, ?_⟩) ?_
  rotate_left
  · (intro wS hwS; obtain ⟨hcS, hfS, hhS⟩ := bcell hwS; go_simp; try (first | (with_reducible rfl) | rw [if_pos (by omega)] | rw [if_neg (by omega)]))
  try simp only [Act.put, List.getElem_toArray, List.getElem_cons_succ, List.getElem_cons_zero, List.setIfInBounds_toArray, List.set_cons_zero, List.set_cons_succ]
  refine stage_read (i := 2) (v := ?_) rfl (by kernel_rfl) (by kernel_rfl) (by kernel_rfl) (by kernel_rfl) (by kernel_rfl) (by kernel_rfl) (fun _ _ _ h => h) (Or.inl ⟨by kernel_rfl, ?_⟩) ?_
  rotate_left
  · (intro wS hwS; obtain ⟨hcS, hfS, hhS⟩ := bcell hwS; go_simp; try (first | (with_reducible rfl) | rw [if_pos (by omega)] | rw [if_neg (by omega)]))
  try simp only [Act.put, List.getElem_toArray, List.getElem_cons_succ, List.getElem_cons_zero, List.setIfInBounds_toArray, List.set_cons_zero, List.set_cons_succ]
  refine stage_read (i := 3) (v := ?_) rfl (by kernel_rfl) (by kernel_rfl) (by kernel_rfl) (by kernel_rfl) (by kernel_rfl) (by kernel_rfl) (fun _ _ _ h => h) (Or.inl ⟨by kernel_rfl, ?_⟩) ?_
  rotate_left
  · (intro wS hwS; obtain ⟨hcS, hfS, hhS⟩ := bcell hwS; go_simp; try (first | (with_reducible rfl) | rw [if_pos (by omega)] | rw [if_neg (by omega)]))
  try simp only [Act.put, List.getElem_toArray, List.getElem_cons_succ, List.getElem_cons_zero, List.setIfInBounds_toArray, List.set_cons_zero, List.set_cons_succ]
  refine stage_read (i := 4) (v := ?_) rfl (by kernel_rfl) (by kernel_rfl) (by kernel_rfl) (by kernel_rfl) (by kernel_rfl) (by kernel_rfl) (fun _ _ _ h => h) (Or.inl ⟨by kernel_rfl, ?_⟩) ?_
  rotate_left
  · (intro wS hwS; obtain ⟨hcS, hfS, hhS⟩ := bcell hwS; go_simp; try (first | (with_reducible rfl) | rw [if_pos (by omega)] | rw [if_neg (by omega)]))
  try simp only [Act.put, List.getElem_toArray, List.getElem_cons_succ, List.getElem_cons_zero, List.setIfInBounds_toArray, List.set_cons_zero, List.set_cons_succ]
  refine stage_read (i := 5) (v := ?_) rfl (by kernel_rfl) (by kernel_rfl) (by kernel_rfl) (by kernel_rfl) (by kernel_rfl) (by kernel_rfl) (fun _ _ _ h => h) (Or.inl ⟨by kernel_rfl, ?_⟩) ?_
  rotate_left
  · (intro wS hwS; obtain ⟨hcS, hfS, hhS⟩ := bcell hwS; go_simp; try (first | (with_reducible rfl) | rw [if_pos (by omega)] | rw [if_neg (by omega)]))
  try simp only [Act.put, List.getElem_toArray, List.getElem_cons_succ, List.getElem_cons_zero, List.setIfInBounds_toArray, List.set_cons_zero, List.set_cons_succ]
  refine stage_read (i := 6) (v := ?_) rfl (by kernel_rfl) (by kernel_rfl) (by kernel_rfl) (by kernel_rfl) (by kernel_rfl) (by kernel_rfl) (fun _ _ _ h => h) (Or.inl ⟨by kernel_rfl, ?_⟩) ?_
  rotate_left
  · (intro wS hwS; obtain ⟨hcS, hfS, hhS⟩ := bcell hwS; go_simp; try (first | (with_reducible rfl) | rw [if_pos (by omega)] | rw [if_neg (by omega)]))
  try simp only [Act.put, List.getElem_toArray, List.getElem_cons_succ, List.getElem_cons_zero, List.setIfInBounds_toArray, List.set_cons_zero, List.set_cons_succ]
  refine stage_read (i := 7) (v := ?_) rfl (by kernel_rfl) (by kernel_rfl) (by kernel_rfl) (by kernel_rfl) (by kernel_rfl) (by kernel_rfl) (fun _ _ _ h => h) (Or.inl ⟨by kernel_rfl, ?_⟩) ?_
  rotate_left
  · (intro wS hwS; obtain ⟨hcS, hfS, hhS⟩ := bcell hwS; go_simp; try (first | (with_reducible rfl) | rw [if_pos (by omega)] | rw [if_neg (by omega)]))
  try simp only [Act.put, List.getElem_toArray, List.getElem_cons_succ, List.getElem_cons_zero, List.setIfInBounds_toArray, List.set_cons_zero, List.set_cons_succ]
  refine stage_read (i := 8) (v := ?_) rfl (by kernel_rfl) (by kernel_rfl) (by kernel_rfl) (by kernel_rfl) (by kernel_rfl) (by kernel_rfl) (fun _ _ _ h => h) (Or.inl ⟨by kernel_rfl, ?_⟩) ?_
  rotate_left
  · (intro wS hwS; obtain ⟨hcS, hfS, hhS⟩ := bcell hwS; go_simp; try (first | (with_reducible rfl) | rw [if_pos (by omega)] | rw [if_neg (by omega)]))
  try simp only [Act.put, List.getElem_toArray, List.getElem_cons_succ, List.getElem_cons_zero, List.setIfInBounds_toArray, List.set_cons_zero, List.set_cons_succ]
  refine stage_read (i := 9) (v := ?_) rfl (by kernel_rfl) (by kernel_rfl) (by kernel_rfl) (by kernel_rfl) (by kernel_rfl) (by kernel_rfl) (fun _ _ _ h => h) (Or.inl ⟨by kernel_rfl, ?_⟩) ?_
  rotate_left
  · (intro wS hwS; obtain ⟨hcS, hfS, hhS⟩ := bcell hwS; go_simp; try (first | (with_reducible rfl) | rw [if_pos (by omega)] | rw [if_neg (by omega)]))
  try simp only [Act.put, List.getElem_toArray, List.getElem_cons_succ, List.getElem_cons_zero, List.setIfInBounds_toArray, List.set_cons_zero, List.set_cons_succ]
  refine stage_end (by kernel_rfl) rfl (fun K hK => ?_)
  go_simp
  refine hK.out _ _ ?_
  clear hK K
  try simp only [Act.put, List.getElem_toArray, List.getElem_cons_succ, List.getElem_cons_zero, List.setIfInBounds_toArray, List.set_cons_zero, List.set_cons_succ]
  first | refine stage 1000000 ?_ | skip
  refine stage_read (i := 11) (v := ?_) rfl (by kernel_rfl) (by kernel_rfl) (by kernel_rfl) (by kernel_rfl) (by kernel_rfl) (by kernel_rfl) (fun _ _ _ h => h) (Or.inl ⟨by kernel_rfl, ?_⟩) ?_
  rotate_left
  · (intro wS hwS; obtain ⟨hcS, hfS, hhS⟩ := bcell hwS; go_simp; try (first | (with_reducible rfl) | rw [if_pos (by omega)] | rw [if_neg (by omega)]))
  try simp only [Act.put, List.getElem_toArray, List.getElem_cons_succ, List.getElem_cons_zero, List.setIfInBounds_toArray, List.set_cons_zero, List.set_cons_succ]
  first | refine wpAnyT_done (by kernel_rfl) ?_ _ | refine wpAny_done (by kernel_rfl) ?_ _
  have hmm := HM.out
  have hb := HB.out
  clear HM HB x0 x1 x2 x3 x4 x5 f0 f1 f2 f3 f4 f5 e0 e1 e2 e3 e4 e5 c0 c1
  generalize World.setCell _ _ _ = w4 at *
  obtain ⟨⟨y0, y1, y2, y3, y4, y5⟩, _⟩ := at6 hmm
  go_wp2_with fail
  exact bodyPost_ret (v := .tuple #[.agg #[.int .i64 y.kind, .string y.key, .string y.val, .int .i64 y.rev, .string y.iff, .int .i64 y.ifrev], .bool true]) (by simp [results, Try.results22, go_sem, y0, y1, y2, y3, y4, y5]) rfl ⟨rfl, hb⟩
end Go.Proofs.Ytcpkaolfafeojaa
