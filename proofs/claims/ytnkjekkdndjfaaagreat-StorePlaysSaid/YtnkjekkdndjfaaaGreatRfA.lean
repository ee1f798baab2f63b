
/- Chapter 6: the document's disk in memory; New, find, Find, without, write, Arm, Read. -/
import Derived.Test.YtnkjekkdndjfaaaGreatDkA
import Derived.Test.YtnkjekkdndjfaaaGreatDkB
namespace Go.Proofs.YtnkjekkdndjfaaaGreat
set_option linter.unusedVariables false
set_option linter.unusedSimpArgs false
open Go.RowKit
theorem info_rfile : (Tryz.prog.info? 88).map (fun i => (i.zero, i.size, i.bytes)) = some (some (Value.agg #[.string ⟨#[]⟩, .string ⟨#[]⟩, .int .i64 0]), 3, 40) := by kernel_rfl
abbrev RdF (w : World) (B : Nat) (A : Option Addr) (n c : Nat) (l : List Fi) : Prop := Rd w B 3 A n c (l.flatMap Fi.row)
def OwnRF (w : World) (B : Nat) (A : Option Addr) (n c : Nat) (l : List Fi) : Prop := w.ownsRow B 88 3 (.slice A n c) n (l.flatMap Fi.row)
theorem fi_one (x : Fi) : ∀ u ∈ x.row, u.oneCell' = true := by intro u hu; simp [Fi.row] at hu; rcases hu with rfl | rfl | rfl <;> rfl
theorem fis_one (l : List Fi) : ∀ u ∈ l.flatMap Fi.row, u.oneCell' = true := by
  intro u hu
  obtain ⟨x, _, h⟩ := List.mem_flatMap.1 hu
  exact fi_one x u h
theorem OwnRF.len {w : World} {B n c : Nat} {A : Option Addr} {l : List Fi} (h : OwnRF w B A n c l) : n = l.length := by have := h.1; rw [flat_length Fi.row_length] at this; omega
theorem OwnRF.step {w w' : World} {B n c : Nat} {A : Option Addr} {l : List Fi} (h : OwnRF w B A n c l) (hb : Below w.heap.size w w') : OwnRF w' B A n c l := own_below h hb
theorem OwnRF.rd {w : World} {B n c : Nat} {A : Option Addr} {l : List Fi} (h : OwnRF w B A n c l) : RdF w w.heap.size A n c l := Rd.of_own h
/-- append(s, x) of the document's files -/
theorem app_rf {ops : Array Oper} {rest : List Oper} {o : Oper} {a : Act} {w : World} {Q : Exit → Act → World → Prop} (hgd : o.guard = none) (s x : Operand)
    (ho : o.op = .call { callee := .builtin .append, args := #[s, x], argTypes := #[84, 84] })
    {base : Nat} {A' : Option Addr} {n c' : Nat} {l : List Fi} (hs : a.eval s = .slice A' n c') (hown : OwnRF w base A' n c' l)
    {B : Nat} {A : Option Addr} {m c : Nat} (y : List Fi) (hx : a.eval x = .slice A m c) (hr : RdF w B A m c y) (hbase : base ≤ w.heap.size) (hsz : n + m ≤ 1099511627776)
    (h : ∀ A2 c2 w', OwnRF w' base A2 (n + m) c2 (l ++ y) → w.grownBy w' (Value.slice A' n c').ownBlock → Below base w w' → wpList Tryz.prog ops Q rest (a.put o.dst (.slice A2 (n + m) c2)) w') : wpList Tryz.prog ops Q (o :: rest) a w := by
  obtain ⟨i0, hi0, hz0, hz1, hz2⟩ := info_parts info_rfile
  refine wpList_app w hgd s x _ ho base 88 i0 _ 3 40 Tryz.underlying84 hi0 hz0 hz1 hz2 rfl (by omega) A' n c' _ hs hown B A m c _ hx hr (fis_one y) ?_ (by omega) (by simp only [maxLen]; omega) hbase
  intro A2 c2 w' h1 h2 _ _
  exact h A2 c2 w' (by unfold OwnRF; rw [List.flatMap_append]; exact h1) h2 (below_of_app hown h2 hbase)
/-- the document's disk -/
structure IsRf (w : World) (g : Nat) (l : List Fi) (gone : Bool) (left : Int) : Prop where
  ex : ∃ A c, At w g 86 [.slice A l.length c, .bool gone, .int .i64 left] ∧ OwnRF w 0 A l.length c l
section
variable {w w' : World} {g : Nat} {l : List Fi} {gone : Bool} {left : Int}
theorem IsRf.lt (h : IsRf w g l gone left) : g < w.heap.size := by obtain ⟨A, c, h1, _⟩ := h.ex; exact h1.lt
theorem IsRf.step (h : IsRf w g l gone left) (hb : Below w.heap.size w w') : IsRf w' g l gone left := by
  obtain ⟨A, c, h1, h2⟩ := h.ex
  exact ⟨A, c, h1.below hb, h2.step hb⟩
theorem IsRf.drew (h : IsRf w g l gone left) : IsRf w.drew g l gone left := h.step (Below.drew (Below.refl _ _))
/-- fields are turned -/
theorem IsRf.turn {l' : List Fi} {gone' : Bool} {left' : Int} {A : Option Addr} {c : Nat} (hx : At w g 86 [.slice A l.length c, .bool gone, .int .i64 left]) {A' : Option Addr} {c' : Nat} (ho : OwnRF w 0 A' l'.length c' l')
    (hG : w.grownBy w' (some g)) (ha : At w' g 86 [.slice A' l'.length c', .bool gone', .int .i64 left']) : IsRf w' g l' gone' left' :=
  ⟨A', c', ha, own_mod (show World.ownsRow _ _ _ _ _ _ _ from ho) (grown_mod hG) (fun i o ho _ hit e => isT_at hx ho hit (by decide) (Option.some.inj e).symm)⟩
theorem rnew_any (w : World) : Calls Tryz.prog 26 #[] w fun x w' => ∃ g, x = .returned (.pointer (some ⟨g, 0, none⟩)) ∧ IsRf w' g [] false (-1) ∧ w.heap.size ≤ g ∧ Below w.heap.size w w' := by
  go_enter Tryz.func26, Tryz.ntmps26
  go_wp2_with fail
  go_ret
  obtain ⟨h2, hb2⟩ := one_at w 86 [.slice none 0 0, .bool false, .int .i64 (-1)]
  exact ⟨w.heap.size, rfl, ⟨none, 0, h2, World.ownsRow_nil _ _ _ _⟩, Nat.le_refl _, hb2⟩
theorem findF_cut {l : List Fi} {k : ByteArray} {j : Nat} (hj : j < l.length) (hb : ∀ i (h : i < j), (l[i]'(by omega)).k ≠ k) (hk : (l[j]).k = k) : findF l k = some l[j] := by
  have e : l = l.take j ++ (l[j] :: l.drop (j + 1)) := by rw [← List.drop_eq_getElem_cons hj, List.take_append_drop]
  have hn : findF (l.take j) k = none := by
    refine findF_ne fun c hc => ?_
    obtain ⟨i, hi, rfl⟩ := List.getElem_of_mem hc
    rw [List.length_take] at hi
    rw [List.getElem_take]
    exact hb i (by omega)
  calc findF l k = findF (l.take j ++ (l[j] :: l.drop (j + 1))) k := by rw [← e]
    _ = some l[j] := by rw [findF_append, hn, Option.none_or]; unfold findF; rw [List.find?_cons, decide_eq_true hk]
set_option maxRecDepth 100000 in
set_option maxHeartbeats 2000000 in
theorem rfindx_any (k : ByteArray) (w : World) (h : IsRf w g l gone left) :
    Calls Tryz.prog 127 #[.pointer (some ⟨g, 0, none⟩), .string k] w fun x w' => (∃ i, x = .returned (.int .i64 i) ∧ ((i = -1 ∧ findF l k = none) ∨ ∃ (j : Nat), i = (j : Int) ∧ ∃ (hj : j < l.length), findF l k = some l[j])) ∧ Below w.heap.size w w' := by
  obtain ⟨A, c, h1, h2⟩ := h.ex
  have hr := h2.rd
  have hmax := hr.max
  have hle := hr.le
  unfold maxLen at hmax
  have HR := Lib.hid hr
  obtain ⟨⟨x0, x1, x2⟩, xf⟩ := at3 h1
  clear h hr h1 h2
  go_enter Tryz.func127, Tryz.ntmps127
  go_wp2_with fail
  clear x0 x1 x2 xf
  go_loopw [12] (fun i wr => ∃ j : Nat, i = .int .i64 (j : Int) ∧ j ≤ l.length ∧ (∀ i (h : i < j) (h2 : i < l.length), (l[i]).k ≠ k) ∧ Below w.heap.size w wr) (fun i _ => l.length - (intOf i).toNat)
  case atStart => exact ⟨0, rfl, Nat.zero_le _, fun i h => absurd h (by omega), Below.refl _ _⟩
  case round =>
    obtain ⟨j, rfl, hj, hall, hb⟩ := hrel
    have hsz := hb.size
    by_cases hlt : j < l.length
    · obtain ⟨gs, off, e, hg, he⟩ := HR.out.elem Fi.row_length (by omega) (k := j) hlt
      subst e
      have hbc := bcell (Below.mono (B := w.heap.size) hb (Nat.le_refl _))
      have e0 := (hbc.1 _ _ hg).trans (he 0 _ rfl)
      have e1 := (hbc.1 _ _ hg).trans (he 1 _ rfl)
      have e2 := (hbc.1 _ _ hg).trans (he 2 _ rfl)
      rw [Nat.add_zero] at e0
      have HC := Lib.hid (fun hk => findF_cut hlt (fun i h => hall i h (by omega)) hk)
      have HN := Lib.hid (show (l[j]).k ≠ k → ∀ i (h : i < j + 1) (h2 : i < l.length), (l[i]).k ≠ k from fun hk i h h2 => by
        rcases Nat.lt_succ_iff_lt_or_eq.1 h with h' | h'
        · exact hall i h' h2
        · subst h'; exact hk)
      have HEX := Lib.hid (show ∀ y, findF l k = some y → y = l[j] → ∃ (j' : Nat), (j : Int) = (j' : Int) ∧ ∃ (hj : j' < l.length), findF l k = some l[j'] from fun y hy e => ⟨j, rfl, hlt, by rw [hy, e]⟩)
      clear he hbc hall
      generalize l[j] = y at *
      obtain ⟨yk, yb, yA, yn, yc, ys⟩ := y
      simp only at e0 e1 e2
      have HB := Lib.hid (chain hb (one_at wr 88 [.string yk, .string ⟨yb.toArray⟩, .int .i64 ys]).2)
      clear hb
      by_cases hk : yk = k
      · have hkb : (yk.toList == k.toList) = true := by rw [ba_beq]; exact decide_eq_true hk
        have hfin := HEX.out _ (HC.out hk) rfl
        have HFIN := Lib.hid hfin
        clear hfin hk
        go_wp2_with fail
        go_ret
        exact ⟨⟨_, rfl, .inr HFIN.out⟩, HB.out⟩
      · have hkb : (yk.toList == k.toList) = false := by rw [ba_beq]; exact decide_eq_false hk
        have HN2 := Lib.hid (HN.out hk)
        clear hk
        go_wp2_with fail
        go_roundw
        case rel => exact ⟨j + 1, by go_num, by omega, HN2.out, HB.out⟩
        case measure => simp [intOf]; omega
    · have hn : findF l k = none := findF_ne fun c hc => by
        obtain ⟨i, hi, rfl⟩ := List.getElem_of_mem hc
        exact hall i (by omega) hi
      have HN := Lib.hid hn
      have HB := Lib.hid hb
      clear hn hall hb
      go_wp2_with fail
      go_ret
      exact ⟨⟨-1, rfl, .inl ⟨rfl, HN.out⟩⟩, HB.out⟩
theorem getF_some {l : List Fi} {k : ByteArray} {y : Fi} (h : findF l k = some y) : getF l k = y := by unfold getF; rw [h]; rfl
theorem getF_none {l : List Fi} {k : ByteArray} (h : findF l k = none) : getF l k = Fi.zero := by unfold getF; rw [h]; rfl
def foundV (l : List Fi) (k : ByteArray) : Value := .tuple #[.agg #[.string (getF l k).k, .string ⟨(getF l k).b.toArray⟩, .int .i64 (getF l k).s], .bool (findF l k).isSome]
set_option maxRecDepth 100000 in
set_option maxHeartbeats 2000000 in
theorem rFind_any (k : ByteArray) (w : World) (h : IsRf w g l gone left) :
    Calls Tryz.prog 91 #[.pointer (some ⟨g, 0, none⟩), .string k] w fun x w' => x = .returned (foundV l k) ∧ Below w.heap.size w w' := by
  obtain ⟨h4, hb4⟩ := one_at w 88 [.string ⟨#[]⟩, .string ⟨#[]⟩, .int .i64 0]
  have hgl := h.lt
  have h := h.step hb4
  have H := Lib.hid h
  obtain ⟨fv, hfv⟩ : ∃ fv, foundV l k = fv := ⟨_, rfl⟩
  rw [hfv]
  have HFV := Lib.hid hfv
  clear hfv
  go_enter Tryz.func91, Tryz.ntmps91
  go_upto_region 1 with fail
  generalize World.alloc w _ = w1 at *
  obtain ⟨gz, hgz⟩ : ∃ gz, w.heap.size = gz := ⟨_, rfl⟩
  rw [hgz] at h4 hb4 hgl ⊢
  have HB := Lib.hid hb4
  have hg4 := h4.lt
  have HFX := rfindx_any k w1 h
  clear h hb4
  go_upto_region 2 with (((with_reducible refine (HFX).mono ?_); rintro z w2 ⟨⟨i, rfl, hi⟩, hb2⟩))
  have h := H.out.step hb2
  replace h4 := h4.step hb2
  clear HFX H
  rcases hi with ⟨rfl, hn⟩ | ⟨j, rfl, hj, hs⟩
  ·
    have hres : fv = .tuple #[.agg #[.string ⟨#[]⟩, .string ⟨#[]⟩, .int .i64 0], .bool false] := by rw [← HFV.out]; unfold foundV; rw [getF_none hn, hn]; rfl
    have HRES := Lib.hid hres
    clear hres hn h
    obtain ⟨⟨z0, z1, z2⟩, zf0, zf1, zf2⟩ := at3 h4
    obtain ⟨hat, hG⟩ := At.many [(0, .string ⟨#[]⟩), (1, .string ⟨#[]⟩), (2, .int .i64 0)] h4
    dsimp only [setMany, setL, List.set] at hat hG
    have hfin := HB.out.trans ((hb2.mono (Nat.le_of_lt hg4)).grown hG (Nat.le_of_lt h4.lt) (by intro i hi; injection hi with hi; omega))
    obtain ⟨⟨z0, z1, z2⟩, zf0, zf1, zf2⟩ := at3 h4
    have HG := Lib.hid (show ∀ v, Below gz w v → Below w.heap.size w v from fun v h => by rw [hgz]; exact h)
    have HFIN := Lib.hid hfin
    clear hfin hG hb2 h4 hgz
    obtain ⟨⟨q0, q1, q2⟩, _⟩ := at3 hat
    go_wp2_with fail
    exact bodyPost_ret (v := .tuple #[.agg #[.string ⟨#[]⟩, .string ⟨#[]⟩, .int .i64 0], .bool false]) (by simp [results, Tryz.results91, go_sem, q0, q1, q2]) rfl ⟨by rw [HRES.out], HG.out _ HFIN.out⟩
  ·
    obtain ⟨A, c, hd, ho⟩ := h.ex
    obtain ⟨⟨x0, x1, x2⟩, xf⟩ := at3 hd
    obtain ⟨gs, off, e, hg, he⟩ := ho.rd.elem Fi.row_length (by omega) (k := j) hj
    have hle := ho.rd.le
    have hmax := ho.rd.max
    unfold maxLen at hmax
    subst e
    have e0 := he 0 _ rfl
    have e1 := he 1 _ rfl
    have e2 := he 2 _ rfl
    rw [Nat.add_zero] at e0
    have hres : fv = .tuple #[.agg #[.string (l[j]).k, .string ⟨(l[j]).b.toArray⟩, .int .i64 (l[j]).s], .bool true] := by rw [← HFV.out]; unfold foundV; rw [getF_some hs, hs]; rfl
    have HRES := Lib.hid hres
    clear hres hs he h hd ho
    generalize l[j] = y at *
    obtain ⟨yk, yb, yA, yn, yc, ys⟩ := y
    simp only at e0 e1 e2 HRES
    have hneg : decide ((j : Int) < 0) = false := decide_eq_false (by omega)
    obtain ⟨⟨z0, z1, z2⟩, zf0, zf1, zf2⟩ := at3 h4
    obtain ⟨hat, hG⟩ := At.many [(0, .string yk), (1, .string ⟨yb.toArray⟩), (2, .int .i64 ys)] h4
    dsimp only [setMany, setL, List.set] at hat hG
    have hfin := HB.out.trans ((hb2.mono (Nat.le_of_lt hg4)).grown hG (Nat.le_of_lt h4.lt) (by intro i hi; injection hi with hi; omega))
    obtain ⟨⟨z0, z1, z2⟩, zf0, zf1, zf2⟩ := at3 h4
    have HG := Lib.hid (show ∀ v, Below gz w v → Below w.heap.size w v from fun v h => by rw [hgz]; exact h)
    have HFIN := Lib.hid hfin
    clear hfin hG hb2 h4 hgz
    obtain ⟨⟨q0, q1, q2⟩, _⟩ := at3 hat
    go_wp2_with fail
    exact bodyPost_ret (v := .tuple #[.agg #[.string yk, .string ⟨yb.toArray⟩, .int .i64 ys], .bool true]) (by simp [results, Tryz.results91, go_sem, q0, q1, q2]) rfl ⟨by rw [HRES.out], HG.out _ HFIN.out⟩
/-- files but one -/
def withoutF (l : List Fi) (k : ByteArray) : List Fi := l.filter fun x => !decide (x.k = k)
set_option maxRecDepth 100000 in
set_option maxHeartbeats 2000000 in
theorem rwithout_any (k : ByteArray) (w : World) (h : IsRf w g l gone left) (hn : l.length ≤ 1000000) :
    Calls Tryz.prog 130 #[.pointer (some ⟨g, 0, none⟩), .string k] w fun x w' => ∃ A c, x = .returned (.slice A (withoutF l k).length c) ∧ OwnRF w' w.heap.size A (withoutF l k).length c (withoutF l k) ∧ Below w.heap.size w w' := by
  obtain ⟨A, c, h1, h2⟩ := h.ex
  have hr := h2.rd
  have hmax := hr.max
  have hle := hr.le
  unfold maxLen at hmax
  have HR := Lib.hid hr
  obtain ⟨⟨x0, x1, x2⟩, xf⟩ := at3 h1
  clear h hr h1 h2
  go_enter Tryz.func130, Tryz.ntmps130
  go_wp2_with fail
  clear x0 x1 x2 xf
  go_loopw [5, 13] (fun v i wr => ∃ (j c1 : Nat) (A1 : Option Addr) (q : List Fi), i = .int .i64 (j : Int) ∧ v = .slice A1 q.length c1 ∧ j ≤ l.length ∧ q = withoutF (l.take j) k ∧ q.length ≤ j ∧ OwnRF wr w.heap.size A1 q.length c1 q ∧ Below w.heap.size w wr) (fun _ i _ => l.length - (intOf i).toNat)
  case atStart => exact ⟨0, 0, none, [], rfl, rfl, Nat.zero_le _, rfl, Nat.le_refl _, World.ownsRow_nil _ _ _ _, Below.refl _ _⟩
  case round =>
    obtain ⟨j, c1, A1, q, rfl, rfl, hj, hq, hql, hown, hb⟩ := hrel
    have hsz := hb.size
    by_cases hlt : j < l.length
    · obtain ⟨gs, off, e, hg, he⟩ := HR.out.elem Fi.row_length (by omega) (k := j) hlt
      subst e
      have hbc := bcell (Below.mono (B := w.heap.size) hb (Nat.le_refl _))
      have e0 := (hbc.1 _ _ hg).trans (he 0 _ rfl)
      have e1 := (hbc.1 _ _ hg).trans (he 1 _ rfl)
      have e2 := (hbc.1 _ _ hg).trans (he 2 _ rfl)
      rw [Nat.add_zero] at e0
      have hw : withoutF (l.take (j + 1)) k = q ++ (if (l[j]).k = k then [] else [l[j]]) := by
        rw [hq]
        unfold withoutF
        rw [List.take_succ_eq_append_getElem hlt, List.filter_append]
        congr 1
        simp only [List.filter_cons, List.filter_nil]
        by_cases hk : (l[j]).k = k <;> simp [hk]
      clear he hbc hq
      generalize l[j] = y at *
      obtain ⟨yk, yb, yA, yn, yc, ys⟩ := y
      simp only at e0 e1 e2 hw
      have HW := Lib.hid hw
      have HB := Lib.hid hb
      have HO := Lib.hid hown
      clear hw hb hown
      go_upto_region 5 with fail
      obtain ⟨hy, hb2⟩ := one_at wr 88 [.string yk, .string ⟨yb.toArray⟩, .int .i64 ys]
      have HB := Lib.hid (chain HB.out hb2)
      have HO := Lib.hid (HO.out.step hb2)
      have hz2 := Nat.le_trans hsz hb2.size
      clear hb2 e0 e1 e2
      generalize World.alloc wr _ = w2 at *
      obtain ⟨gy, hgy⟩ : ∃ gy, wr.heap.size = gy := ⟨_, rfl⟩
      rw [hgy] at hy ⊢
      clear hgy
      obtain ⟨⟨y0, y1, y2⟩, yf⟩ := at3 hy
      by_cases hk : yk = k
      · have hkb : (yk.toList == k.toList) = true := by rw [ba_beq]; exact decide_eq_true hk
        have hfin : q = withoutF (l.take (j + 1)) k := by rw [HW.out, if_pos hk, List.append_nil]
        have HF := Lib.hid hfin
        clear hfin hk HW
        go_wp2_with fail
        go_roundw
        case rel => exact ⟨j + 1, c1, A1, q, by go_num, rfl, by omega, HF.out, by omega, HO.out, HB.out⟩
        case measure => simp [intOf]; omega
      · have hkb : (yk.toList == k.toList) = false := by rw [ba_beq]; exact decide_eq_false hk
        have hfin : q ++ [⟨yk, yb, yA, yn, yc, ys⟩] = withoutF (l.take (j + 1)) k := by rw [HW.out, if_neg hk]
        have HF := Lib.hid hfin
        have hbn := (one_at w2 88 [.string yk, .string ⟨yb.toArray⟩, .int .i64 ys]).2
        have HN := Lib.hid (Rd.lit (w := w2) (t := 88) (n := 1) (cs := [.string yk, .string ⟨yb.toArray⟩, .int .i64 ys]) rfl (by simp [maxLen]) (by omega : 0 < 3))
        have HO2 := Lib.hid (HO.out.step hbn)
        have HB2 := Lib.hid (chain HB.out hbn)
        have hz3 := Nat.le_trans hz2 hbn.size
        clear hfin hk HW hbn
        go_wp2_with (at_builtin; refine app_rf rfl (.tmp 21) (.tmp 23) rfl rfl HO2.out [⟨yk, yb, yA, yn, yc, ys⟩] rfl HN.out hz3 (by omega) ?_; intro A3 c3 w4 hW4 hG4 hB4)
        have HO4 := Lib.hid hW4
        have HB4 := Lib.hid (HB2.out.trans hB4)
        clear hW4 hG4 hB4 y0 y1 y2 yf hy
        go_roundw
        case rel => exact ⟨j + 1, c3, A3, q ++ [⟨yk, yb, yA, yn, yc, ys⟩], by go_num, by rw [List.length_append]; rfl, by omega, HF.out, by rw [List.length_append, List.length_singleton]; omega, by rw [List.length_append]; exact HO4.out, HB4.out⟩
        case measure => simp [intOf]; omega
    · obtain rfl : j = l.length := by omega
      rw [List.take_length] at hq
      subst hq
      have HO := Lib.hid hown
      have HB := Lib.hid hb
      clear hown hb
      go_wp2_with fail
      go_ret
      exact ⟨A1, c1, rfl, HO.out, HB.out⟩
end
end Go.Proofs.YtnkjekkdndjfaaaGreat
namespace Go.Proofs.YtnkjekkdndjfaaaGreat
set_option linter.unusedVariables false
set_option linter.unusedSimpArgs false
open Go.RowKit
theorem applyF_cons (e : Fi) (d : Bool) (c : Fi) (l : List Fi) : applyF e d (c :: l) = ((if !d && kless e.k c.k then [e] else []) ++ (if c.k = e.k then [] else [c])) ++ applyF e (d || kless e.k c.k) l := rfl
theorem apply_without (e : Fi) : ∀ (d : Bool) (l : List Fi), applyF e d (withoutF l e.k) = applyF e d l
  | d, [] => rfl
  | d, c :: l => by
    unfold withoutF
    rw [List.filter_cons]
    by_cases hk : c.k = e.k
    · rw [if_neg (by simp [hk]), applyF_cons, if_pos hk, hk, kless_irrefl]
      have := apply_without e d l
      unfold withoutF at this
      rw [this]
      simp
    · rw [if_pos (by simp [hk]), applyF_cons, applyF_cons]
      have := apply_without e (d || kless e.k c.k) l
      unfold withoutF at this
      rw [this]
theorem without_ne {l : List Fi} {k : ByteArray} {x : Fi} (h : x ∈ withoutF l k) : x.k ≠ k := by
  unfold withoutF at h
  have := (List.mem_filter.1 h).2
  simpa using this
theorem without_apply (e : Fi) : ∀ l : List Fi, applyF e true l = withoutF l e.k
  | [] => rfl
  | c :: l => by
    rw [applyF_cons, Bool.true_or, without_apply e l]
    unfold withoutF
    rw [List.filter_cons]
    by_cases hk : c.k = e.k <;> simp [hk]
theorem gtr_of {a b : ByteArray} (hne : a ≠ b) : (!(Op.bytesLess a.toList b.toList || a.toList == b.toList)) = kless b a := by
  rw [ba_beq, decide_eq_false hne, Bool.or_false]
  rcases kless_tri a b with h | h | h
  · have h1 : Op.bytesLess a.toList b.toList = true := h
    rw [h1, kless_asymm h]
    rfl
  · exact absurd h hne
  · have h1 : Op.bytesLess a.toList b.toList = false := kless_asymm h
    rw [h1, h]
    rfl
section
variable {w w' : World} {g : Nat} {l : List Fi} {gone : Bool} {left : Int}
set_option maxRecDepth 100000 in
set_option maxHeartbeats 4000000 in
theorem rput_any (e : Fi) (w : World) (h : IsRf w g l gone left) (hn : l.length ≤ 1000000) :
    Calls Tryz.prog 129 #[.pointer (some ⟨g, 0, none⟩), .agg #[.string e.k, .string ⟨e.b.toArray⟩, .int .i64 e.s]] w fun x w' => x = .returned (.tuple #[]) ∧ IsRf w' g (applyF e false l) gone left ∧ Mod (fun i _ => i = g) w w' := by
  obtain ⟨hf, hb0⟩ := one_at w 88 [.string e.k, .string ⟨e.b.toArray⟩, .int .i64 e.s]
  have hw := apply_without e false l
  have hne := fun x (h : x ∈ withoutF l e.k) => without_ne h
  have hln : (withoutF l e.k).length ≤ 1000000 := Nat.le_trans (List.length_filter_le _ _) hn
  have hgl := h.lt
  have h1 := h.step hb0
  have HWO := fun v (h : IsRf v g l gone left) => rwithout_any e.k v h hn
  rw [← hw]
  have H0 := Lib.hid h1
  clear hw h
  generalize withoutF l e.k = q at *
  obtain ⟨ek, eb, eA, en, ec, es⟩ := e
  simp only at hf hne HWO hb0 ⊢
  go_enter Tryz.func129, Tryz.ntmps129
  go_upto_region 1 with fail
  have hs0 := hb0.size
  have hz1 := hf.lt
  generalize World.alloc w _ = w1 at *
  have HG := Lib.hid (show Below w.heap.size w w1 from hb0)
  obtain ⟨g3, hg3⟩ : ∃ g3, w.heap.size = g3 := ⟨_, rfl⟩
  have HG3 := Lib.hid hg3
  rw [hg3] at hf hz1 hgl ⊢
  clear hg3 hb0
  obtain ⟨⟨x0, x1, x2⟩, xf⟩ := at3 hf
  have HWO := HWO w1 h1
  clear h1
  go_upto_region 4 with (((with_reducible refine (HWO).mono ?_); rintro z w2 ⟨A2, c2, rfl, hown2, hb2⟩))
  have hr := hown2.rd
  have hmax := hr.max
  have hle := hr.le
  unfold maxLen at hmax
  have HR := Lib.hid hr
  have H30 := Lib.hid (hf.step hb2)
  have HB0 := Lib.hid hb2
  have hs2 := hb2.size
  clear HWO hown2 hr hb2 hf x0 x1 x2 xf
  have H20 := Lib.hid (H0.out.step HB0.out)
  have HGW := Lib.hid (chain HG.out HB0.out)
  have hg32 : g3 < w2.heap.size := Nat.lt_of_lt_of_le hz1 hs2
  clear hs2 HB0 HG H0
  go_wp2_with fail
  go_loopw [4, 5, 13] (fun v dn i wr => ∃ (k c1 : Nat) (A1 : Option Addr) (o : List Fi) (d : Bool), v = .slice A1 o.length c1 ∧ dn = .bool d ∧ i = .int .i64 (k : Int) ∧ k ≤ q.length ∧ o.length ≤ k + d.toNat ∧ applyF ⟨ek, eb, eA, en, ec, es⟩ false q = o ++ applyF ⟨ek, eb, eA, en, ec, es⟩ d (q.drop k) ∧ OwnRF wr w2.heap.size A1 o.length c1 o ∧ At wr g3 88 [.string ek, .string ⟨eb.toArray⟩, .int .i64 es] ∧ w2.heap.size ≤ wr.heap.size ∧ Below w2.heap.size w2 wr) (fun _ _ i _ => q.length - (intOf i).toNat)
  case atStart => exact ⟨0, 0, none, [], false, rfl, rfl, rfl, Nat.zero_le _, by simp, rfl, World.ownsRow_nil _ _ _ _, H30.out, Nat.le_refl _, Below.refl _ _⟩
  case round =>
    clear H30
    obtain ⟨k, c1, A1, o, d, rfl, rfl, rfl, hk, hol, hap, hown, h3, hsv, hb⟩ := hrel
    have hd1 : d.toNat ≤ 1 := by cases d <;> simp
    by_cases hlt : k < q.length
    · obtain ⟨gs, off, e, hg, he⟩ := HR.out.elem Fi.row_length (by omega) (k := k) hlt
      subst e
      have hbc := bcell (Below.mono (B := w2.heap.size) hb (Nat.le_refl _))
      have e0 := (hbc.1 _ _ hg).trans (he 0 _ rfl)
      have e1 := (hbc.1 _ _ hg).trans (he 1 _ rfl)
      have e2 := (hbc.1 _ _ hg).trans (he 2 _ rfl)
      rw [Nat.add_zero] at e0
      have hnk := hne q[k] (List.getElem_mem hlt)
      rw [List.drop_eq_getElem_cons hlt, applyF_cons, if_neg hnk] at hap
      clear he hbc
      generalize q[k] = y at *
      obtain ⟨yk, yb, yA, yn, yc, ys⟩ := y
      simp only at e0 e1 e2 hnk hap
      have hgt := gtr_of hnk
      have HLT := Lib.hid (show ∀ i, (Value.slice A1 o.length c1).ownBlock = some i → i < wr.heap.size from fun i hi => (World.ownsRow.lt (show World.ownsRow _ _ _ _ _ _ _ from hown) i hi).2)
      have HAP := Lib.hid hap
      have HO := Lib.hid hown
      have H3 := Lib.hid h3
      have HB := Lib.hid hb
      clear hap hown h3 hb hnk
      go_upto_region 6 with fail
      obtain ⟨hy, hbn⟩ := one_at wr 88 [.string yk, .string ⟨yb.toArray⟩, .int .i64 ys]
      replace HO := Lib.hid (HO.out.step hbn)
      replace H3 := Lib.hid (H3.out.step hbn)
      replace HB := Lib.hid (chain HB.out hbn)
      replace hsv := Nat.le_trans hsv hbn.size
      have H7 := Lib.hid hy
      clear hbn hy e0 e1 e2
      generalize World.alloc wr _ = w3 at *
      obtain ⟨g7, hg7⟩ : ∃ g7, wr.heap.size = g7 := ⟨_, rfl⟩
      rw [hg7] at H7 HLT ⊢
      clear hg7
      obtain ⟨⟨x0, x1, x2⟩, xf⟩ := at3 H3.out
      obtain ⟨⟨y0, y1, y2⟩, yf⟩ := at3 H7.out
      cases hdk : (!d && kless ek yk) with
      | true =>
        rw [Bool.and_eq_true] at hdk
        obtain ⟨hd0, hkl⟩ := hdk
        have hdf : d = false := by simpa using hd0
        subst hdf
        rw [hkl] at hgt
        have hap2 := HAP.out
        rw [hkl] at hap2
        simp only [Bool.not_false, Bool.and_self, if_true, Bool.or_true, List.append_assoc] at hap2
        have HAP2 := Lib.hid hap2
        clear hap2 hd0 HAP hkl
        have hn1 : o.length ≤ 1000001 := by simp at hol; omega
        have hbn := (one_at w3 88 [.string ek, .string ⟨eb.toArray⟩, .int .i64 es]).2
        have HN := Lib.hid (Rd.lit (w := w3) (t := 88) (n := 1) (cs := [.string ek, .string ⟨eb.toArray⟩, .int .i64 es]) rfl (by simp [maxLen]) (by omega : 0 < 3))
        have HO2 := Lib.hid (HO.out.step hbn)
        have HB2 := Lib.hid (chain HB.out hbn)
        have H32 := Lib.hid (H3.out.step hbn)
        have H72 := Lib.hid (H7.out.step hbn)
        have hsn := Nat.le_trans hsv hbn.size
        clear hbn
        go_upto_region 9 with (at_builtin; refine app_rf rfl (.tmp 26) (.tmp 28) rfl rfl HO2.out [⟨ek, eb, eA, en, ec, es⟩] rfl HN.out hsn (by omega) ?_; intro A3 c3 w4 hW4 hG4 hB4)
        have h34 := H32.out.under hB4 hg32
        have h74 := H72.out.row hG4 (fun e => absurd (HLT.out _ e) (by omega))
        have hb4 := HB2.out.trans hB4
        have hsv := Nat.le_trans hsn hB4.size
        replace HO := Lib.hid hW4
        replace H3 := Lib.hid h34
        replace H7 := Lib.hid h74
        replace HB := Lib.hid hb4
        clear hW4 hG4 hB4 h34 h74 hb4 HN HO2 HB2 H32 H72 hsn
        clear x0 x1 x2 xf y0 y1 y2 yf HLT hgt
        obtain ⟨⟨x0, x1, x2⟩, xf⟩ := at3 H3.out
        obtain ⟨⟨y0, y1, y2⟩, yf⟩ := at3 H7.out
        have hbn := (one_at w4 88 [.string yk, .string ⟨yb.toArray⟩, .int .i64 ys]).2
        have HN := Lib.hid (Rd.lit (w := w4) (t := 88) (n := 1) (cs := [.string yk, .string ⟨yb.toArray⟩, .int .i64 ys]) rfl (by simp [maxLen]) (by omega : 0 < 3))
        have HO2 := Lib.hid (HO.out.step hbn)
        have HB2 := Lib.hid (chain HB.out hbn)
        have H32 := Lib.hid (H3.out.step hbn)
        have hsn := Nat.le_trans hsv hbn.size
        clear hbn
        go_wp2_with (at_builtin; refine app_rf rfl (.tmp 30) (.tmp 32) rfl rfl HO2.out [⟨yk, yb, yA, yn, yc, ys⟩] rfl HN.out hsn (by omega) ?_; intro A3 c3 w5 hW5 hG5 hB5)
        have h35 := H32.out.under hB5 hg32
        have hb5 := HB2.out.trans hB5
        have hsv := Nat.le_trans hsn hB5.size
        replace HO := Lib.hid hW5
        replace H3 := Lib.hid h35
        replace HB := Lib.hid hb5
        clear hW5 hG5 hB5 h35 hb5 HN HO2 HB2 H32 hsn
        clear x0 x1 x2 xf y0 y1 y2 yf H7
        go_roundw
        case rel => exact ⟨k + 1, c3, A3, o ++ [⟨ek, eb, eA, en, ec, es⟩] ++ [⟨yk, yb, yA, yn, yc, ys⟩], true, by rw [List.length_append, List.length_append]; rfl, rfl, by go_num, by omega, by rw [List.length_append, List.length_append, List.length_singleton, List.length_singleton]; simp at hol ⊢; omega, by rw [HAP2.out]; simp, by rw [List.length_append, List.length_append]; exact HO.out, H3.out, hsv, HB.out⟩
        case measure => simp [intOf]; omega
      | false =>
        have hap2 := HAP.out
        rw [hdk] at hap2
        simp only [Bool.false_eq_true, if_false, List.nil_append] at hap2
        have hor : (d || kless ek yk) = d := by
          cases d
          · simpa using hdk
          · rfl
        rw [hor] at hap2
        have HAP2 := Lib.hid hap2
        have hn1 : o.length ≤ 1000001 := by omega
        cases d with
        | true =>
          clear hap2 HAP hdk hor hgt
          have hbn := (one_at w3 88 [.string yk, .string ⟨yb.toArray⟩, .int .i64 ys]).2
          have HN := Lib.hid (Rd.lit (w := w3) (t := 88) (n := 1) (cs := [.string yk, .string ⟨yb.toArray⟩, .int .i64 ys]) rfl (by simp [maxLen]) (by omega : 0 < 3))
          have HO2 := Lib.hid (HO.out.step hbn)
          have HB2 := Lib.hid (chain HB.out hbn)
          have H32 := Lib.hid (H3.out.step hbn)
          have hsn := Nat.le_trans hsv hbn.size
          clear hbn
          go_wp2_with (at_builtin; refine app_rf rfl (.tmp 30) (.tmp 32) rfl rfl HO2.out [⟨yk, yb, yA, yn, yc, ys⟩] rfl HN.out hsn (by omega) ?_; intro A3 c3 w5 hW5 hG5 hB5)
          have h35 := H32.out.under hB5 hg32
          have hb5 := HB2.out.trans hB5
          have hsv := Nat.le_trans hsn hB5.size
          replace HO := Lib.hid hW5
          replace H3 := Lib.hid h35
          replace HB := Lib.hid hb5
          clear hW5 hG5 hB5 h35 hb5 HN HO2 HB2 H32 hsn
          clear x0 x1 x2 xf y0 y1 y2 yf H7 HLT
          go_roundw
          case rel => exact ⟨k + 1, c3, A3, o ++ [⟨yk, yb, yA, yn, yc, ys⟩], true, by rw [List.length_append]; rfl, rfl, by go_num, by omega, by rw [List.length_append, List.length_singleton]; simp at hol ⊢; omega, by rw [HAP2.out]; simp, by rw [List.length_append]; exact HO.out, H3.out, hsv, HB.out⟩
          case measure => simp [intOf]; omega
        | false =>
          have hkf : kless ek yk = false := by simpa using hdk
          rw [hkf] at hgt
          clear hap2 HAP hdk hor hkf
          have hbn := (one_at w3 88 [.string yk, .string ⟨yb.toArray⟩, .int .i64 ys]).2
          have HN := Lib.hid (Rd.lit (w := w3) (t := 88) (n := 1) (cs := [.string yk, .string ⟨yb.toArray⟩, .int .i64 ys]) rfl (by simp [maxLen]) (by omega : 0 < 3))
          have HO2 := Lib.hid (HO.out.step hbn)
          have HB2 := Lib.hid (chain HB.out hbn)
          have H32 := Lib.hid (H3.out.step hbn)
          have hsn := Nat.le_trans hsv hbn.size
          clear hbn
          go_wp2_with (at_builtin; refine app_rf rfl (.tmp 30) (.tmp 32) rfl rfl HO2.out [⟨yk, yb, yA, yn, yc, ys⟩] rfl HN.out hsn (by omega) ?_; intro A3 c3 w5 hW5 hG5 hB5)
          have h35 := H32.out.under hB5 hg32
          have hb5 := HB2.out.trans hB5
          have hsv := Nat.le_trans hsn hB5.size
          replace HO := Lib.hid hW5
          replace H3 := Lib.hid h35
          replace HB := Lib.hid hb5
          clear hW5 hG5 hB5 h35 hb5 HN HO2 HB2 H32 hsn
          clear x0 x1 x2 xf y0 y1 y2 yf H7 HLT hgt
          go_roundw
          case rel => exact ⟨k + 1, c3, A3, o ++ [⟨yk, yb, yA, yn, yc, ys⟩], false, by rw [List.length_append]; rfl, rfl, by go_num, by omega, by rw [List.length_append, List.length_singleton]; simp at hol ⊢; omega, by rw [HAP2.out]; simp, by rw [List.length_append]; exact HO.out, H3.out, hsv, HB.out⟩
          case measure => simp [intOf]; omega
    · obtain rfl : k = q.length := by omega
      rw [List.drop_length] at hap
      have hn1 : o.length ≤ 1000001 := by omega
      have HAP := Lib.hid hap
      have HO := Lib.hid hown
      have H3 := Lib.hid h3
      have HB := Lib.hid hb
      obtain ⟨⟨x0, x1, x2⟩, xf⟩ := at3 h3
      clear hap hown h3 hb
      cases d with
      | true =>
        have hres : o = applyF ⟨ek, eb, eA, en, ec, es⟩ false q := by rw [HAP.out]; simp [applyF]
        have HRES := Lib.hid hres
        clear hres
        clear x0 x1 x2 xf
        have hI := H20.out.step (HB.out)
        obtain ⟨Ad, cd, hd, hod⟩ := hI.ex
        obtain ⟨⟨z0, z1, z2⟩, zf0, zf1, zf2⟩ := at3 hd
        obtain ⟨hat, hG⟩ := At.many [(0, .slice A1 o.length c1)] hd
        dsimp only [setMany, setL, List.set] at hat hG
        have hfin := IsRf.turn (l' := o) (A' := A1) (c' := c1) hd (own_lower (show World.ownsRow _ _ _ _ _ _ _ from HO.out) (Nat.zero_le _)) hG hat
        have HFIN := Lib.hid hfin
        have HMD := Lib.hid ((((Mod.refl (fun i _ => i = g) w).below HGW.out).below HB.out).grown hG (fun i o _ _ e => (Option.some.inj e).symm))
        clear hfin hat hI hd hod hG HO H3 HB HAP
        go_wp2_with fail
        go_end0
        exact ⟨rfl, (by rw [← HRES.out]; exact HFIN.out), HMD.out⟩
      | false =>
        have hres : o ++ [⟨ek, eb, eA, en, ec, es⟩] = applyF ⟨ek, eb, eA, en, ec, es⟩ false q := by rw [HAP.out]; simp [applyF]
        have HRES := Lib.hid hres
        clear hres
        have hbn := (one_at wr 88 [.string ek, .string ⟨eb.toArray⟩, .int .i64 es]).2
        have HN := Lib.hid (Rd.lit (w := wr) (t := 88) (n := 1) (cs := [.string ek, .string ⟨eb.toArray⟩, .int .i64 es]) rfl (by simp [maxLen]) (by omega : 0 < 3))
        have HO2 := Lib.hid (HO.out.step hbn)
        have HB2 := Lib.hid (chain HB.out hbn)
        have H32 := Lib.hid (H3.out.step hbn)
        have hsn := Nat.le_trans hsv hbn.size
        clear hbn
        go_upto_region 13 with (at_builtin; refine app_rf rfl (.tmp 37) (.tmp 39) rfl rfl HO2.out [⟨ek, eb, eA, en, ec, es⟩] rfl HN.out hsn (by omega) ?_; intro A3 c3 w5 hW5 hG5 hB5)
        have h35 := H32.out.under hB5 hg32
        have hb5 := HB2.out.trans hB5
        have hsv := Nat.le_trans hsn hB5.size
        replace HO := Lib.hid hW5
        replace H3 := Lib.hid h35
        replace HB := Lib.hid hb5
        clear hW5 hG5 hB5 h35 hb5 HN HO2 HB2 H32 hsn
        have hll : o.length + 1 = (o ++ [(⟨ek, eb, eA, en, ec, es⟩ : Fi)]).length := by rw [List.length_append]; rfl
        rw [hll] at HO
        rw [hll]
        clear hll
        generalize o ++ [(⟨ek, eb, eA, en, ec, es⟩ : Fi)] = o' at *
        clear x0 x1 x2 xf
        have hI := H20.out.step (HB.out)
        obtain ⟨Ad, cd, hd, hod⟩ := hI.ex
        obtain ⟨⟨z0, z1, z2⟩, zf0, zf1, zf2⟩ := at3 hd
        obtain ⟨hat, hG⟩ := At.many [(0, .slice A3 o'.length c3)] hd
        dsimp only [setMany, setL, List.set] at hat hG
        have hfin := IsRf.turn (l' := o') (A' := A3) (c' := c3) hd (own_lower (show World.ownsRow _ _ _ _ _ _ _ from HO.out) (Nat.zero_le _)) hG hat
        have HFIN := Lib.hid hfin
        have HMD := Lib.hid ((((Mod.refl (fun i _ => i = g) w).below HGW.out).below HB.out).grown hG (fun i o _ _ e => (Option.some.inj e).symm))
        clear hfin hat hI hd hod hG HO H3 HB HAP
        go_wp2_with fail
        go_end0
        exact ⟨rfl, (by rw [← HRES.out]; exact HFIN.out), HMD.out⟩
theorem rarm_any (n : Int) (w : World) (h : IsRf w g l gone left) :
    Calls Tryz.prog 30 #[.pointer (some ⟨g, 0, none⟩), .int .i64 n] w fun x w' => x = .returned (.tuple #[]) ∧ IsRf w' g l gone (if n < 0 then 0 else n) ∧ w.grownBy w' (some g) := by
  obtain ⟨A, c, h1, h2⟩ := h.ex
  obtain ⟨⟨x0, x1, x2⟩, xf0, xf1, xf2⟩ := at3 h1
  by_cases hn : n < 0
  · rw [if_pos hn]
    obtain ⟨hat, hG⟩ := At.many [(2, .int .i64 n), (2, .int .i64 0)] h1
    dsimp only [setMany, setL, List.set] at hat hG
    have HF := Lib.hid (IsRf.turn h1 h2 hG hat)
    have HG := Lib.hid hG
    clear h h1 h2 hat hG
    go_enter Tryz.func30, Tryz.ntmps30
    go_wp2_with fail
    go_end0
    exact ⟨rfl, HF.out, HG.out⟩
  · rw [if_neg hn]
    obtain ⟨hat, hG⟩ := At.many [(2, .int .i64 n)] h1
    dsimp only [setMany, setL, List.set] at hat hG
    have HF := Lib.hid (IsRf.turn h1 h2 hG hat)
    have HG := Lib.hid hG
    clear h h1 h2 hat hG
    go_enter Tryz.func30, Tryz.ntmps30
    go_wp2_with fail
    go_end0
    exact ⟨rfl, HF.out, HG.out⟩
/-- the document's write -/
structure Rw where
  how : Int
  gone : Bool
  left : Int
def rwP (gone : Bool) (left : Int) : Rw := if gone then ⟨1, true, left⟩ else if left = 0 then ⟨2, true, 0⟩ else if 0 < left then ⟨0, false, left - 1⟩ else ⟨0, false, left⟩
set_option maxRecDepth 100000 in
set_option maxHeartbeats 1000000 in
theorem rwrite_any (w : World) (h : IsRf w g l gone left) (hl : -1 ≤ left ∧ left < 9223372036854775808) :
    Calls Tryz.prog 128 #[.pointer (some ⟨g, 0, none⟩)] w fun x w' => x = .returned (.int .i64 (rwP gone left).how) ∧ IsRf w' g l (rwP gone left).gone (rwP gone left).left ∧ w.grownBy w' (some g) := by
  obtain ⟨A, c, h1, h2⟩ := h.ex
  obtain ⟨⟨x0, x1, x2⟩, xf0, xf1, xf2⟩ := at3 h1
  have H := Lib.hid h
  unfold rwP
  cases gone with
  | true =>
    clear h h1 h2
    go_enter Tryz.func128, Tryz.ntmps128
    go_wp2_with fail
    go_ret
    exact ⟨rfl, H.out, World.grownBy.refl _ _⟩
  | false =>
    by_cases h0 : left = 0
    · subst h0
      obtain ⟨hat, hG⟩ := At.many [(1, .bool true)] h1
      dsimp only [setMany, setL, List.set] at hat hG
      have HF := Lib.hid (IsRf.turn h1 h2 hG hat)
      have HG := Lib.hid hG
      clear h h1 h2 hat hG
      go_enter Tryz.func128, Tryz.ntmps128
      go_wp2_with fail
      go_ret
      exact ⟨rfl, HF.out, HG.out⟩
    · have hb0 : (left == 0) = false := beq_eq_false_iff_ne.mpr h0
      by_cases h2p : 0 < left
      · have hd : decide (0 < left) = true := decide_eq_true h2p
        have hw : IntKind.i64.wrap (left - 1) = left - 1 := IntWalk.i64_in _ (by omega)
        obtain ⟨hat, hG⟩ := At.many [(2, .int .i64 (left - 1))] h1
        dsimp only [setMany, setL, List.set] at hat hG
        have HF := Lib.hid (IsRf.turn h1 h2 hG hat)
        have HG := Lib.hid hG
        clear h h1 h2 hat hG
        go_enter Tryz.func128, Tryz.ntmps128
        go_wp2_with fail
        go_ret
        exact ⟨by simp [h0, h2p], by simpa [h0, h2p] using HF.out, HG.out⟩
      · have hd : decide (0 < left) = false := decide_eq_false h2p
        clear h h1 h2
        go_enter Tryz.func128, Tryz.ntmps128
        go_wp2_with fail
        go_ret
        exact ⟨by simp [h0, h2p], by simpa [h0, h2p] using H.out, World.grownBy.refl _ _⟩
set_option maxRecDepth 100000 in
set_option maxHeartbeats 1000000 in
theorem rread_any (k : ByteArray) (w : World) (h : IsRf w g l gone left) :
    Calls Tryz.prog 89 #[.pointer (some ⟨g, 0, none⟩), .string k] w fun x w' => x = .returned (.tuple #[.string ⟨(rdBytes l gone k).toArray⟩, .int .i64 (rdCode l gone k)]) ∧ Below w.heap.size w w' := by
  have HF := rFind_any k w h
  unfold foundV at HF
  unfold rdBytes rdCode
  generalize getF l k = y at *
  obtain ⟨yk, yb, yA, yn, yc, ys⟩ := y
  simp only at HF ⊢
  cases hf : (findF l k).isSome with
  | false =>
    rw [hf] at HF
    go_enter Tryz.func89, Tryz.ntmps89
    go_upto_region 2 with (((with_reducible refine (HF).mono ?_); rintro z w1 ⟨rfl, hb1⟩))
    obtain ⟨h6, hb2⟩ := one_at w1 88 [.string yk, .string ⟨yb.toArray⟩, .int .i64 ys]
    have HB := Lib.hid (chain hb1 hb2)
    clear HF hb1 hb2
    go_wp2_with fail
    exact bodyPost_ret (v := .tuple #[.string ⟨#[]⟩, .int .i64 6]) (by simp [results, Tryz.results89, go_sem]) rfl ⟨rfl, HB.out⟩
  | true =>
    rw [hf] at HF
    go_enter Tryz.func89, Tryz.ntmps89
    go_upto_region 2 with (((with_reducible refine (HF).mono ?_); rintro z w1 ⟨rfl, hb1⟩))
    obtain ⟨h6, hb2⟩ := one_at w1 88 [.string yk, .string ⟨yb.toArray⟩, .int .i64 ys]
    have HB := Lib.hid (chain hb1 hb2)
    have h := (h.step hb1).step hb2
    clear HF hb1 hb2
    generalize World.alloc w1 _ = w2 at *
    generalize w1.heap.size = g6 at *
    obtain ⟨A, c, h1, h2⟩ := h.ex
    obtain ⟨⟨x0, x1, x2⟩, xf⟩ := at3 h1
    obtain ⟨⟨y0, y1, y2⟩, yf⟩ := at3 h6
    clear h h1 h2
    cases gone with
    | true =>
      go_wp2_with fail
      exact bodyPost_ret (v := .tuple #[.string ⟨#[]⟩, .int .i64 12]) (by simp [results, Tryz.results89, go_sem]) rfl ⟨rfl, HB.out⟩
    | false =>
      go_wp2_with fail
      exact bodyPost_ret (v := .tuple #[.string ⟨yb.toArray⟩, .int .i64 0]) (by simp [results, Tryz.results89, go_sem]) rfl ⟨rfl, HB.out⟩
end
end Go.Proofs.YtnkjekkdndjfaaaGreat
namespace Go.Proofs.YtnkjekkdndjfaaaGreat
set_option linter.unusedVariables false
set_option linter.unusedSimpArgs false
open Go.RowKit
def rl (armed : Bool) (left : Int) : Int := if armed then left else -1
theorem rw_wr (lost armed : Bool) (left : Int) (hl : 0 ≤ left) : ∃ how, rwP lost (rl armed left) = ⟨how, (wrP lost armed left).lost, rl armed (wrP lost armed left).left⟩ ∧ ((how = 0 ∧ (wrP lost armed left).code = 0) ∨ (0 < how ∧ (wrP lost armed left).code = 12)) ∧ (how = 1 ↔ lost = true) := by
  unfold rwP wrP rl
  cases lost
  · cases armed
    · exact ⟨0, rfl, .inl ⟨rfl, rfl⟩, by simp⟩
    · by_cases h0 : left = 0
      · subst h0; exact ⟨2, rfl, .inr ⟨by omega, rfl⟩, by simp⟩
      · exact ⟨0, by simp [h0]; omega, .inl ⟨rfl, by simp [h0]⟩, by simp⟩
  · exact ⟨1, rfl, .inr ⟨by omega, rfl⟩, by simp⟩
theorem rl_bounds {armed : Bool} {left : Int} (h : 0 ≤ left ∧ left < 9223372036854775808) : -1 ≤ rl armed left ∧ rl armed left < 9223372036854775808 := by
  unfold rl
  split <;> omega
section
variable {w w' : World} {g : Nat} {l : List Fi} {lost armed : Bool} {left : Int}
theorem rwr_any (w : World) (h : IsRf w g l lost (rl armed left)) (hl : 0 ≤ left ∧ left < 9223372036854775808) :
    ∃ how : Int, ((how = 0 ∧ (wrP lost armed left).code = 0) ∨ (0 < how ∧ (wrP lost armed left).code = 12)) ∧ (how = 1 ↔ lost = true) ∧ ∀ v, IsRf v g l lost (rl armed left) →
    Calls Tryz.prog 128 #[.pointer (some ⟨g, 0, none⟩)] v fun x w' => x = .returned (.int .i64 how) ∧ IsRf w' g l (wrP lost armed left).lost (rl armed (wrP lost armed left).left) ∧ v.grownBy w' (some g) := by
  obtain ⟨how, e, h1, h2⟩ := rw_wr lost armed left hl.1
  refine ⟨how, h1, h2, fun v hv => ?_⟩
  have := rwrite_any v hv (rl_bounds hl)
  rw [e] at this
  exact this
theorem ext_take (l : List UInt8) (m : Nat) : (⟨l.toArray⟩ : ByteArray).extract 0 m = ⟨(l.take m).toArray⟩ := by
  apply ByteArray.ext
  rw [ByteArray.data_extract]
  simp
theorem gmod {w w' : World} {g : Nat} (h : w.grownBy w' (some g)) : Mod (fun i _ => i = g) w w' := (grown_mod h).mono (fun i o _ _ e => (Option.some.inj e).symm)
/-- what the document does with a file that is there -/
def RgR (w w' : World) (g : Nat) (l : List Fi) (armed : Bool) (q : Wr) (NEW : List Fi) (x : Ending) : Prop :=
  x = .returned (.int .i64 q.code) ∧ Mod (fun i _ => i = g) w w' ∧ IsRf w' g (if q.code = 0 then NEW else l) q.lost (rl armed q.left)
set_option maxRecDepth 100000 in
theorem rsync_no (k : ByteArray) (w : World) (h : IsRf w g l lost left) (hf : (findF l k).isSome = false) :
    Calls Tryz.prog 93 #[.pointer (some ⟨g, 0, none⟩), .string k] w fun x w' => x = .returned (.int .i64 6) ∧ IsRf w' g l lost left ∧ Below w.heap.size w w' := by
  have HF := rFind_any k w h
  unfold foundV at HF
  rw [hf] at HF
  generalize getF l k = y at *
  obtain ⟨yk, yb, yA, yn, yc, ys⟩ := y
  simp only at HF
  go_enter Tryz.func93, Tryz.ntmps93
  go_upto_region 2 with (((with_reducible refine (HF).mono ?_); rintro z w1 ⟨rfl, hb1⟩))
  have hb2 := (one_at w1 88 [.string yk, .string ⟨yb.toArray⟩, .int .i64 ys]).2
  have HB := Lib.hid (chain hb1 hb2)
  have H := Lib.hid h
  clear HF hb1 hb2 h
  go_wp2_with fail
  go_ret
  exact ⟨rfl, H.out.step HB.out, HB.out⟩
set_option maxRecDepth 100000 in
theorem rremove_no (k : ByteArray) (w : World) (h : IsRf w g l lost left) (hf : (findF l k).isSome = false) :
    Calls Tryz.prog 98 #[.pointer (some ⟨g, 0, none⟩), .string k] w fun x w' => x = .returned (.int .i64 6) ∧ IsRf w' g l lost left ∧ Below w.heap.size w w' := by
  have HF := rFind_any k w h
  unfold foundV at HF
  rw [hf] at HF
  generalize getF l k = y at *
  obtain ⟨yk, yb, yA, yn, yc, ys⟩ := y
  simp only at HF
  go_enter Tryz.func98, Tryz.ntmps98
  go_upto_region 2 with (((with_reducible refine (HF).mono ?_); rintro z w1 ⟨rfl, hb1⟩))
  have hb2 := (one_at w1 88 [.string yk, .string ⟨yb.toArray⟩, .int .i64 ys]).2
  have HB := Lib.hid (chain hb1 hb2)
  have H := Lib.hid h
  clear HF hb1 hb2 h
  go_wp2_with fail
  go_ret
  exact ⟨rfl, H.out.step HB.out, HB.out⟩
set_option maxRecDepth 100000 in
theorem rcut_no (k : ByteArray) (m : Int) (w : World) (h : IsRf w g l lost left) (hf : (findF l k).isSome = false) :
    Calls Tryz.prog 92 #[.pointer (some ⟨g, 0, none⟩), .string k, .int .i64 m] w fun x w' => x = .returned (.int .i64 6) ∧ IsRf w' g l lost left ∧ Below w.heap.size w w' := by
  have HF := rFind_any k w h
  unfold foundV at HF
  rw [hf] at HF
  generalize getF l k = y at *
  obtain ⟨yk, yb, yA, yn, yc, ys⟩ := y
  simp only at HF
  go_enter Tryz.func92, Tryz.ntmps92
  go_upto_region 2 with (((with_reducible refine (HF).mono ?_); rintro z w1 ⟨rfl, hb1⟩))
  have hb2 := (one_at w1 88 [.string yk, .string ⟨yb.toArray⟩, .int .i64 ys]).2
  have HB := Lib.hid (chain hb1 hb2)
  have H := Lib.hid h
  clear HF hb1 hb2 h
  go_wp2_with fail
  go_ret
  exact ⟨rfl, H.out.step HB.out, HB.out⟩
set_option maxRecDepth 100000 in
theorem rrename_no (k to : ByteArray) (w : World) (h : IsRf w g l lost left) (hf : (findF l k).isSome = false) :
    Calls Tryz.prog 101 #[.pointer (some ⟨g, 0, none⟩), .string k, .string to] w fun x w' => x = .returned (.int .i64 6) ∧ IsRf w' g l lost left ∧ Below w.heap.size w w' := by
  have HF := rFind_any k w h
  unfold foundV at HF
  rw [hf] at HF
  generalize getF l k = y at *
  obtain ⟨yk, yb, yA, yn, yc, ys⟩ := y
  simp only at HF
  go_enter Tryz.func101, Tryz.ntmps101
  go_upto_region 2 with (((with_reducible refine (HF).mono ?_); rintro z w1 ⟨rfl, hb1⟩))
  have hb2 := (one_at w1 88 [.string yk, .string ⟨yb.toArray⟩, .int .i64 ys]).2
  have HB := Lib.hid (chain hb1 hb2)
  have H := Lib.hid h
  clear HF hb1 hb2 h
  go_wp2_with fail
  go_ret
  exact ⟨rfl, H.out.step HB.out, HB.out⟩
set_option maxRecDepth 100000 in
set_option maxHeartbeats 2000000 in
theorem rsync_go (k : ByteArray) (w : World) (h : IsRf w g l lost (rl armed left)) (hl : 0 ≤ left ∧ left < 9223372036854775808) (hf : (findF l k).isSome = true) (hn : l.length ≤ 1000000) :
    Calls Tryz.prog 93 #[.pointer (some ⟨g, 0, none⟩), .string k] w fun x w' => RgR w w' g l armed (wrP lost armed left) (applyF ⟨k, (getF l k).b, none, 0, 0, ((getF l k).b.length : Int)⟩ false l) x := by
  have HF := rFind_any k w h
  unfold foundV at HF
  rw [hf] at HF
  obtain ⟨how, hhow, hh1, HW⟩ := rwr_any w h hl
  obtain ⟨q, hq⟩ : ∃ q, wrP lost armed left = q := ⟨_, rfl⟩
  rw [hq] at hhow HW ⊢
  clear hq hh1
  obtain ⟨code, now, lost', left'⟩ := q
  simp only at hhow HW
  obtain ⟨y, hy⟩ : ∃ y, getF l k = y := ⟨_, rfl⟩
  rw [hy] at HF
  try rw [hy]
  have HY := Lib.hid hy
  clear hy
  obtain ⟨yk, yb, yA, yn, yc, ys⟩ := y
  simp only at HF
  try simp only
  have HW := Lib.hid HW
  have H := Lib.hid h
  clear h
  go_enter Tryz.func93, Tryz.ntmps93
  go_upto_region 2 with (((with_reducible refine (HF).mono ?_); rintro z w1 ⟨rfl, hb1⟩))
  obtain ⟨h5, hb2⟩ := one_at w1 88 [.string yk, .string ⟨yb.toArray⟩, .int .i64 ys]
  have hm2 := (Mod.refl (fun i _ => i = g) w).below (chain hb1 hb2)
  have h := (H.out.step hb1).step hb2
  have hgl := h.lt
  have hgw1 := (H.out.step hb1).lt
  clear HF hb1 hb2 H
  generalize World.alloc w1 _ = w2 at *
  generalize w1.heap.size = g5 at *
  have HW := HW.out w2 h
  obtain ⟨⟨y0, y1, y2⟩, yf⟩ := at3 h5
  rcases hhow with ⟨rfl, rfl⟩ | ⟨hpos, rfl⟩
  rotate_left
  ·
    have hd : decide (0 < how) = true := decide_eq_true hpos
    go_wp2_with (((with_reducible refine (HW).mono ?_); rintro z w3 ⟨rfl, h3, hG3⟩))
    go_ret
    exact ⟨rfl, hm2.grown hG3 (fun i o _ _ e => (Option.some.inj e).symm), by rw [if_neg (show ¬ (12 : Int) = 0 by decide)]; exact h3⟩
  ·
    go_upto_region 6 with (((with_reducible refine (HW).mono ?_); rintro z w3 ⟨rfl, h3, hG3⟩))
    replace h5 := h5.only hG3 (by omega)
    have hm3 := hm2.grown hG3 (fun i o _ _ e => (Option.some.inj e).symm)
    clear HW hG3 hm2 y0 y1 y2 yf h
    obtain ⟨⟨y0, y1, y2⟩, yf⟩ := at3 h5
    have HP := rput_any ⟨k, yb, none, 0, 0, (yb.length : Int)⟩ w3 h3 hn
    simp only at HP
    go_wp2_with (((with_reducible refine calls_id ?_); refine HP.mono ?_; rintro z w4 ⟨rfl, h4, hm4⟩))
    go_ret
    exact ⟨rfl, hm3.trans hm4, by rw [if_pos rfl]; exact h4⟩
set_option maxRecDepth 100000 in
set_option maxHeartbeats 2000000 in
theorem rcut_arg (k : ByteArray) (m : Int) (w : World) (h : IsRf w g l lost left) (hf : (findF l k).isSome = true) (hm : m < 0 ∨ ((getF l k).b.length : Int) < m) :
    Calls Tryz.prog 92 #[.pointer (some ⟨g, 0, none⟩), .string k, .int .i64 m] w fun x w' => x = .returned (.int .i64 1) ∧ IsRf w' g l lost left ∧ Below w.heap.size w w' := by
  have HF := rFind_any k w h
  unfold foundV at HF
  rw [hf] at HF
  generalize getF l k = y at *
  obtain ⟨yk, yb, yA, yn, yc, ys⟩ := y
  simp only at HF hm
  go_enter Tryz.func92, Tryz.ntmps92
  go_upto_region 2 with (((with_reducible refine (HF).mono ?_); rintro z w1 ⟨rfl, hb1⟩))
  obtain ⟨h5, hb2⟩ := one_at w1 88 [.string yk, .string ⟨yb.toArray⟩, .int .i64 ys]
  have HB := Lib.hid (chain hb1 hb2)
  have H := Lib.hid h
  clear HF hb1 hb2 h
  generalize World.alloc w1 _ = w2 at *
  generalize w1.heap.size = g5 at *
  obtain ⟨⟨y0, y1, y2⟩, yf⟩ := at3 h5
  by_cases h0 : m < 0
  ·
    have hd0 : decide (m < 0) = true := decide_eq_true h0
    clear hm
    go_wp2_with fail
    go_ret
    exact ⟨rfl, H.out.step HB.out, HB.out⟩
  ·
    have hd0 : decide (m < 0) = false := decide_eq_false h0
    have hm1 : (yb.length : Int) < m := by omega
    have hd1 : decide ((yb.length : Int) < m) = true := decide_eq_true hm1
    clear hm
    go_wp2_with fail
    go_ret
    exact ⟨rfl, H.out.step HB.out, HB.out⟩
set_option maxRecDepth 100000 in
set_option maxHeartbeats 2000000 in
theorem rcut_go (k : ByteArray) (m : Nat) (w : World) (h : IsRf w g l lost (rl armed left)) (hl : 0 ≤ left ∧ left < 9223372036854775808) (hf : (findF l k).isSome = true) (hn : l.length ≤ 1000000) (hm : m ≤ (getF l k).b.length) (hsz : (getF l k).b.length ≤ 100000000) :
    Calls Tryz.prog 92 #[.pointer (some ⟨g, 0, none⟩), .string k, .int .i64 (m : Int)] w fun x w' => RgR w w' g l armed (wrP lost armed left) (applyF ⟨k, (getF l k).b.take m, none, 0, 0, (m : Int)⟩ false l) x := by
  have HF := rFind_any k w h
  unfold foundV at HF
  rw [hf] at HF
  obtain ⟨how, hhow, hh1, HW⟩ := rwr_any w h hl
  obtain ⟨q, hq⟩ : ∃ q, wrP lost armed left = q := ⟨_, rfl⟩
  rw [hq] at hhow HW ⊢
  clear hq hh1
  obtain ⟨code, now, lost', left'⟩ := q
  simp only at hhow HW
  obtain ⟨y, hy⟩ : ∃ y, getF l k = y := ⟨_, rfl⟩
  rw [hy] at HF
  try rw [hy]
  have HY := Lib.hid hy
  clear hy
  obtain ⟨yk, yb, yA, yn, yc, ys⟩ := y
  simp only at HF
  try simp only
  have HW := Lib.hid HW
  have H := Lib.hid h
  clear h
  go_enter Tryz.func92, Tryz.ntmps92
  go_upto_region 2 with (((with_reducible refine (HF).mono ?_); rintro z w1 ⟨rfl, hb1⟩))
  obtain ⟨h5, hb2⟩ := one_at w1 88 [.string yk, .string ⟨yb.toArray⟩, .int .i64 ys]
  have hm2 := (Mod.refl (fun i _ => i = g) w).below (chain hb1 hb2)
  have h := (H.out.step hb1).step hb2
  have hgl := h.lt
  have hgw1 := (H.out.step hb1).lt
  clear HF hb1 hb2 H
  generalize World.alloc w1 _ = w2 at *
  generalize w1.heap.size = g5 at *
  have HW := HW.out w2 h
  obtain ⟨⟨y0, y1, y2⟩, yf⟩ := at3 h5
  rw [HY.out] at hm hsz
  simp only at hm hsz
  have hd0 : decide ((m : Int) < 0) = false := decide_eq_false (by omega)
  have hd1 : decide ((yb.length : Int) < (m : Int)) = false := decide_eq_false (by omega)
  have hext : (⟨yb.toArray⟩ : ByteArray).extract 0 m = ⟨(yb.take m).toArray⟩ := ext_take yb m
  rcases hhow with ⟨rfl, rfl⟩ | ⟨hpos, rfl⟩
  rotate_left
  ·
    have hd : decide (0 < how) = true := decide_eq_true hpos
    go_wp2_with (((with_reducible refine (HW).mono ?_); rintro z w3 ⟨rfl, h3, hG3⟩))
    go_ret
    exact ⟨rfl, hm2.grown hG3 (fun i o _ _ e => (Option.some.inj e).symm), by rw [if_neg (show ¬ (12 : Int) = 0 by decide)]; exact h3⟩
  ·
    go_upto_region 8 with (((with_reducible refine (HW).mono ?_); rintro z w3 ⟨rfl, h3, hG3⟩))
    replace h5 := h5.only hG3 (by omega)
    have hm3 := hm2.grown hG3 (fun i o _ _ e => (Option.some.inj e).symm)
    clear HW hG3 hm2 y0 y1 y2 yf h
    obtain ⟨⟨y0, y1, y2⟩, yf⟩ := at3 h5
    have HP := rput_any ⟨k, yb.take m, none, 0, 0, (m : Int)⟩ w3 h3 hn
    simp only at HP
    go_wp2_with (((with_reducible refine calls_id ?_); refine HP.mono ?_; rintro z w4 ⟨rfl, h4, hm4⟩))
    go_ret
    exact ⟨rfl, hm3.trans hm4, by rw [if_pos rfl]; exact h4⟩
end
end Go.Proofs.YtnkjekkdndjfaaaGreat
namespace Go.Proofs.YtnkjekkdndjfaaaGreat
set_option linter.unusedVariables false
set_option linter.unusedSimpArgs false
open Go.RowKit
section
variable {w w' : World} {g : Nat} {l : List Fi} {lost armed : Bool} {left : Int}
set_option maxRecDepth 100000 in
set_option maxHeartbeats 2000000 in
theorem rremove_go (k : ByteArray) (w : World) (h : IsRf w g l lost (rl armed left)) (hl : 0 ≤ left ∧ left < 9223372036854775808) (hf : (findF l k).isSome = true) (hn : l.length ≤ 1000000) :
    Calls Tryz.prog 98 #[.pointer (some ⟨g, 0, none⟩), .string k] w fun x w' => RgR w w' g l armed (wrP lost armed left) (withoutF l k) x := by
  have HF := rFind_any k w h
  unfold foundV at HF
  rw [hf] at HF
  obtain ⟨how, hhow, hh1, HW⟩ := rwr_any w h hl
  obtain ⟨q, hq⟩ : ∃ q, wrP lost armed left = q := ⟨_, rfl⟩
  rw [hq] at hhow HW ⊢
  clear hq hh1
  obtain ⟨code, now, lost', left'⟩ := q
  simp only at hhow HW
  obtain ⟨y, hy⟩ : ∃ y, getF l k = y := ⟨_, rfl⟩
  rw [hy] at HF
  try rw [hy]
  have HY := Lib.hid hy
  clear hy
  obtain ⟨yk, yb, yA, yn, yc, ys⟩ := y
  simp only at HF
  try simp only
  have HW := Lib.hid HW
  have H := Lib.hid h
  clear h
  go_enter Tryz.func98, Tryz.ntmps98
  go_upto_region 2 with (((with_reducible refine (HF).mono ?_); rintro z w1 ⟨rfl, hb1⟩))
  obtain ⟨h5, hb2⟩ := one_at w1 88 [.string yk, .string ⟨yb.toArray⟩, .int .i64 ys]
  have hm2 := (Mod.refl (fun i _ => i = g) w).below (chain hb1 hb2)
  have h := (H.out.step hb1).step hb2
  have hgl := h.lt
  have hgw1 := (H.out.step hb1).lt
  clear HF hb1 hb2 H
  generalize World.alloc w1 _ = w2 at *
  generalize w1.heap.size = g5 at *
  have HW := HW.out w2 h
  obtain ⟨⟨y0, y1, y2⟩, yf⟩ := at3 h5
  rcases hhow with ⟨rfl, rfl⟩ | ⟨hpos, rfl⟩
  rotate_left
  ·
    have hd : decide (0 < how) = true := decide_eq_true hpos
    go_wp2_with (((with_reducible refine (HW).mono ?_); rintro z w3 ⟨rfl, h3, hG3⟩))
    go_ret
    exact ⟨rfl, hm2.grown hG3 (fun i o _ _ e => (Option.some.inj e).symm), by rw [if_neg (show ¬ (12 : Int) = 0 by decide)]; exact h3⟩
  ·
    go_upto_region 6 with (((with_reducible refine (HW).mono ?_); rintro z w3 ⟨rfl, h3, hG3⟩))
    replace h5 := h5.only hG3 (by omega)
    have hm3 := hm2.grown hG3 (fun i o _ _ e => (Option.some.inj e).symm)
    clear HW hG3 hm2 y0 y1 y2 yf h
    obtain ⟨⟨y0, y1, y2⟩, yf⟩ := at3 h5
    clear y0 y1 y2 yf h5
    have HWO := rwithout_any k w3 h3 hn
    have hwl : (withoutF l k).length ≤ 1000000 := Nat.le_trans (List.length_filter_le _ _) hn
    obtain ⟨q, hqe⟩ : ∃ q, withoutF l k = q := ⟨_, rfl⟩
    rw [hqe] at HWO hwl
    have HQE := Lib.hid hqe
    clear hqe
    go_upto_region 7 with (((with_reducible refine (HWO).mono ?_); rintro z w4 ⟨A4, c4, rfl, hown4, hb4⟩); (have h34 := h3.step hb4); (obtain ⟨Ad, cd, hd, hod⟩ := h34.ex); (obtain ⟨⟨z0, z1, z2⟩, zf0, zf1, zf2⟩ := at3 hd))
    obtain ⟨hat, hG⟩ := At.many [(0, .slice A4 q.length c4)] hd
    dsimp only [setMany, setL, List.set] at hat hG
    have hfin := IsRf.turn (l' := q) hd (own_lower (show World.ownsRow _ _ _ _ _ _ _ from hown4) (Nat.zero_le _)) hG hat
    have hm4 := (hm3.below hb4).grown hG (fun i o _ _ e => (Option.some.inj e).symm)
    have HFIN := Lib.hid hfin
    have HM := Lib.hid hm4
    clear hfin hm4 hat hG h34 hd hod hown4 hb4
    go_wp2_with fail
    go_ret
    exact ⟨rfl, HM.out, by rw [if_pos rfl, HQE.out]; exact HFIN.out⟩
set_option maxRecDepth 100000 in
set_option maxHeartbeats 2000000 in
theorem rrename_arg (k to : ByteArray) (w : World) (h : IsRf w g l lost left) (hf : (findF l k).isSome = true) (ht : to.size = 0 ∨ to = k) :
    Calls Tryz.prog 101 #[.pointer (some ⟨g, 0, none⟩), .string k, .string to] w fun x w' => x = .returned (.int .i64 1) ∧ IsRf w' g l lost left ∧ Below w.heap.size w w' := by
  have HF := rFind_any k w h
  unfold foundV at HF
  rw [hf] at HF
  generalize getF l k = y at *
  obtain ⟨yk, yb, yA, yn, yc, ys⟩ := y
  simp only at HF
  have he := emptyS_iff to
  have hte : (to.toList == k.toList) = decide (to = k) := ba_beq to k
  have H := Lib.hid h
  clear h
  by_cases h0 : to.size = 0
  ·
    rw [decide_eq_false (by omega)] at he
    clear ht hte
    go_enter Tryz.func101, Tryz.ntmps101
    go_upto_region 2 with (((with_reducible refine (HF).mono ?_); rintro z w1 ⟨rfl, hb1⟩))
    have hb2 := (one_at w1 88 [.string yk, .string ⟨yb.toArray⟩, .int .i64 ys]).2
    have HB := Lib.hid (chain hb1 hb2)
    clear HF hb1 hb2
    go_wp2_with fail
    go_ret
    exact ⟨rfl, H.out.step HB.out, HB.out⟩
  ·
    rw [decide_eq_true (by omega)] at he
    obtain rfl : to = k := ht.resolve_left h0
    clear ht hte
    go_enter Tryz.func101, Tryz.ntmps101
    go_upto_region 2 with (((with_reducible refine (HF).mono ?_); rintro z w1 ⟨rfl, hb1⟩))
    have hb2 := (one_at w1 88 [.string yk, .string ⟨yb.toArray⟩, .int .i64 ys]).2
    have HB := Lib.hid (chain hb1 hb2)
    clear HF hb1 hb2
    go_wp2_with fail
    go_ret
    exact ⟨rfl, H.out.step HB.out, HB.out⟩
set_option maxRecDepth 100000 in
set_option maxHeartbeats 2000000 in
theorem rrename_go (k to : ByteArray) (w : World) (h : IsRf w g l lost (rl armed left)) (hl : 0 ≤ left ∧ left < 9223372036854775808) (hf : (findF l k).isSome = true) (hn : l.length ≤ 1000000) (ht : 1 ≤ to.size) (htk : to ≠ k) :
    Calls Tryz.prog 101 #[.pointer (some ⟨g, 0, none⟩), .string k, .string to] w fun x w' => RgR w w' g l armed (wrP lost armed left) (applyF ⟨to, (getF l k).b, none, 0, 0, (getF l k).s⟩ false (withoutF l k)) x := by
  have he := emptyS_iff to
  have hte : (to.toList == k.toList) = decide (to = k) := ba_beq to k
  rw [decide_eq_true ht] at he
  rw [decide_eq_false htk] at hte
  have HF := rFind_any k w h
  unfold foundV at HF
  rw [hf] at HF
  obtain ⟨how, hhow, hh1, HW⟩ := rwr_any w h hl
  obtain ⟨q, hq⟩ : ∃ q, wrP lost armed left = q := ⟨_, rfl⟩
  rw [hq] at hhow HW ⊢
  clear hq hh1
  obtain ⟨code, now, lost', left'⟩ := q
  simp only at hhow HW
  obtain ⟨y, hy⟩ : ∃ y, getF l k = y := ⟨_, rfl⟩
  rw [hy] at HF
  try rw [hy]
  have HY := Lib.hid hy
  clear hy
  obtain ⟨yk, yb, yA, yn, yc, ys⟩ := y
  simp only at HF
  try simp only
  have HW := Lib.hid HW
  have H := Lib.hid h
  clear h
  go_enter Tryz.func101, Tryz.ntmps101
  go_upto_region 2 with (((with_reducible refine (HF).mono ?_); rintro z w1 ⟨rfl, hb1⟩))
  obtain ⟨h5, hb2⟩ := one_at w1 88 [.string yk, .string ⟨yb.toArray⟩, .int .i64 ys]
  have hm2 := (Mod.refl (fun i _ => i = g) w).below (chain hb1 hb2)
  have h := (H.out.step hb1).step hb2
  have hgl := h.lt
  have hgw1 := (H.out.step hb1).lt
  clear HF hb1 hb2 H
  generalize World.alloc w1 _ = w2 at *
  generalize w1.heap.size = g5 at *
  have HW := HW.out w2 h
  obtain ⟨⟨y0, y1, y2⟩, yf⟩ := at3 h5
  rcases hhow with ⟨rfl, rfl⟩ | ⟨hpos, rfl⟩
  rotate_left
  ·
    have hd : decide (0 < how) = true := decide_eq_true hpos
    go_wp2_with (((with_reducible refine (HW).mono ?_); rintro z w3 ⟨rfl, h3, hG3⟩))
    go_ret
    exact ⟨rfl, hm2.grown hG3 (fun i o _ _ e => (Option.some.inj e).symm), by rw [if_neg (show ¬ (12 : Int) = 0 by decide)]; exact h3⟩
  ·
    go_upto_region 8 with (((with_reducible refine (HW).mono ?_); rintro z w3 ⟨rfl, h3, hG3⟩))
    replace h5 := h5.only hG3 (by omega)
    have hm3 := hm2.grown hG3 (fun i o _ _ e => (Option.some.inj e).symm)
    clear HW hG3 hm2 y0 y1 y2 yf h
    obtain ⟨⟨y0, y1, y2⟩, yf⟩ := at3 h5
    clear y0 y1 y2 yf
    have HWO := rwithout_any k w3 h3 hn
    have hwl : (withoutF l k).length ≤ 1000000 := Nat.le_trans (List.length_filter_le _ _) hn
    obtain ⟨q, hqe⟩ : ∃ q, withoutF l k = q := ⟨_, rfl⟩
    rw [hqe] at HWO hwl
    have HQE := Lib.hid hqe
    clear hqe
    go_upto_region 9 with (((with_reducible refine (HWO).mono ?_); rintro z w4 ⟨A4, c4, rfl, hown4, hb4⟩); (have h34 := h3.step hb4); (obtain ⟨Ad, cd, hd, hod⟩ := h34.ex); (obtain ⟨⟨z0, z1, z2⟩, zf0, zf1, zf2⟩ := at3 hd))
    obtain ⟨hat, hG⟩ := At.many [(0, .slice A4 q.length c4)] hd
    dsimp only [setMany, setL, List.set] at hat hG
    have hfin := IsRf.turn (l' := q) hd (own_lower (show World.ownsRow _ _ _ _ _ _ _ from hown4) (Nat.zero_le _)) hG hat
    have hm4 := (hm3.below hb4).grown hG (fun i o _ _ e => (Option.some.inj e).symm)
    replace h5 := (h5.step hb4).only hG (by omega)
    clear hat hG h34 hd hod hown4 hb4 z0 z1 z2 zf0 zf1 zf2 HWO
    generalize World.setCell _ _ _ = w5 at *
    obtain ⟨⟨y0, y1, y2⟩, yf⟩ := at3 h5
    have HP := rput_any ⟨to, yb, none, 0, 0, ys⟩ w5 hfin hwl
    simp only at HP
    go_wp2_with (((with_reducible refine calls_id ?_); refine HP.mono ?_; rintro z w6 ⟨rfl, h6, hm6⟩))
    go_ret
    exact ⟨rfl, hm4.trans hm6, by rw [if_pos rfl, HQE.out]; exact h6⟩
theorem rappend_empty (k b : ByteArray) (hk : k.size = 0) (w : World) : Calls Tryz.prog 95 #[.pointer (some ⟨g, 0, none⟩), .string k, .string b] w fun x w' => x = .returned (.int .i64 1) ∧ w = w' := by
  have he := emptyS_iff k
  rw [decide_eq_false (by omega)] at he
  go_enter Tryz.func95, Tryz.ntmps95
  go_wp2_with fail
  go_ret
  exact ⟨rfl, rfl⟩
set_option maxRecDepth 100000 in
set_option maxHeartbeats 2000000 in
theorem rappend_any (k : ByteArray) (bl : List UInt8) (hk : 1 ≤ k.size) (w : World) (h : IsRf w g l lost (rl armed left)) (hl : 0 ≤ left ∧ left < 9223372036854775808) (hn : l.length ≤ 1000000) (hsz : (getF l k).b.length + bl.length ≤ 1000000000) :
    Calls Tryz.prog 95 #[.pointer (some ⟨g, 0, none⟩), .string k, .string ⟨bl.toArray⟩] w fun x w' => x = .returned (.int .i64 (wrP lost armed left).code) ∧ Mod (fun i _ => i = g) w w' ∧ IsRf w' g (if lost then l else applyF ⟨k, (getF l k).b ++ bl, none, 0, 0, (getF l k).s⟩ false l) (wrP lost armed left).lost (rl armed (wrP lost armed left).left) := by
  have he := emptyS_iff k
  rw [decide_eq_true hk] at he
  obtain ⟨how, hhow, hh1, HW⟩ := rwr_any w h hl
  replace HW := HW w h
  obtain ⟨q, hq⟩ : ∃ q, wrP lost armed left = q := ⟨_, rfl⟩
  rw [hq] at hhow HW ⊢
  clear hq
  obtain ⟨code, now, lost', left'⟩ := q
  simp only at hhow HW ⊢
  obtain ⟨y, hy⟩ : ∃ y, getF l k = y := ⟨_, rfl⟩
  rw [hy] at hsz ⊢
  have HY := Lib.hid hy
  clear hy h
  obtain ⟨yk, yb, yA, yn, yc, ys⟩ := y
  simp only at hsz ⊢
  have hcat : (⟨yb.toArray⟩ ++ ⟨bl.toArray⟩ : ByteArray) = ⟨(yb ++ bl).toArray⟩ := cat_str _ _
  have hsm : ¬ 9223372036854775807 < yb.length + bl.length := by omega
  have hcode : (if 0 < how then (12 : Int) else 0) = code := by rcases hhow with ⟨rfl, rfl⟩ | ⟨h1, rfl⟩; rfl; rw [if_pos h1]
  cases lost with
  | true =>
    have h1 : how = 1 := hh1.2 rfl
    subst h1
    rw [if_pos (by decide)] at hcode
    subst hcode
    clear hhow hh1
    go_enter Tryz.func95, Tryz.ntmps95
    go_wp2_with (((with_reducible refine (HW).mono ?_); rintro z w1 ⟨rfl, h1, hG1⟩))
    go_ret
    exact ⟨rfl, gmod hG1, h1⟩
  | false =>
    have h1 : ¬ how = 1 := fun e => by have := hh1.1 e; cases this
    have hb1 : (how == 1) = false := beq_eq_false_iff_ne.mpr h1
    have hb2 : (how != 1) = true := bne_iff_ne.mpr h1
    clear hh1
    go_enter Tryz.func95, Tryz.ntmps95
    go_upto_region 4 with (((with_reducible refine (HW).mono ?_); rintro z w1 ⟨rfl, h1', hG1⟩))
    have HF := rFind_any k w1 h1'
    unfold foundV at HF
    rw [HY.out] at HF
    simp only at HF
    generalize (findF l k).isSome = fd at *
    have hm1 := gmod hG1
    clear HW hG1
    go_upto_region 6 with (((with_reducible refine (HF).mono ?_); rintro z w2 ⟨rfl, hb2'⟩))
    obtain ⟨h8, hb3⟩ := one_at w2 88 [.string yk, .string ⟨yb.toArray⟩, .int .i64 ys]
    have h3 := (h1'.step hb2').step hb3
    have hm3 := (hm1.below hb2').below hb3
    clear HF hb2' hb3 h1' hm1
    generalize World.alloc w2 _ = w3 at *
    generalize w2.heap.size = g8 at *
    obtain ⟨⟨y0, y1, y2⟩, yf⟩ := at3 h8
    have HP := rput_any ⟨k, yb ++ bl, none, 0, 0, ys⟩ w3 h3 hn
    simp only at HP
    rcases hhow with ⟨rfl, rfl⟩ | ⟨hpos, rfl⟩
    ·
      go_wp2_with (((with_reducible refine calls_id ?_); refine HP.mono ?_; rintro z w6 ⟨rfl, h6, hm6⟩))
      go_ret
      exact ⟨rfl, hm3.trans hm6, h6⟩
    ·
      have hdp : decide (0 < how) = true := decide_eq_true hpos
      go_wp2_with (((with_reducible refine calls_id ?_); refine HP.mono ?_; rintro z w6 ⟨rfl, h6, hm6⟩))
      go_ret
      exact ⟨rfl, hm3.trans hm6, h6⟩
end
end Go.Proofs.YtnkjekkdndjfaaaGreat
namespace Go.Proofs.YtnkjekkdndjfaaaGreat
set_option linter.unusedVariables false
set_option linter.unusedSimpArgs false
open Go.RowKit
section
variable {w w' : World} {g : Nat} {l : List Fi} {gone : Bool} {left : Int}
set_option maxRecDepth 100000 in
set_option maxHeartbeats 4000000 in
theorem rcrash_any (Ak : Option Addr) (n c : Nat) (ks : List Nat) (w : World) (h : IsRf w g l gone left) (hk0 : RdK w w.heap.size Ak n c ks) (hks : ∀ x ∈ ks, x < 65536) (hl : l.length ≤ 100000)
    (hsz : ∀ x ∈ l, 0 ≤ x.s ∧ x.s ≤ x.b.length ∧ x.b.length ≤ 100000000) :
    Calls Tryz.prog 32 #[.pointer (some ⟨g, 0, none⟩), .slice Ak n c] w fun x w' => x = .returned (.tuple #[]) ∧ Mod (fun i _ => i = g) w w' ∧ IsRf w' g (crashF ks 0 l) false (-1) := by
  obtain ⟨A, cL, h1, h2⟩ := h.ex
  have hr := h2.rd
  have hmax := hr.max
  have hle := hr.le
  unfold maxLen at hmax
  have hcn : ks.length = n := by have := hk0.len; rw [List.length_map] at this; omega
  have hcl := hk0.le
  have hcm := hk0.max
  unfold maxLen at hcm
  have HR := Lib.hid hr
  have HK := Lib.hid hk0
  have HKS := Lib.hid hks
  have HSZ := Lib.hid hsz
  have H := Lib.hid h
  have hgl := h.lt
  obtain ⟨⟨x0, x1, x2⟩, xf⟩ := at3 h1
  clear h hr h1 h2 hk0 hks hsz
  go_enter Tryz.func32, Tryz.ntmps32
  go_wp2_with fail
  clear x0 x1 x2 xf
  go_loopw [4, 13] (fun v i wr => ∃ (k c1 : Nat) (A1 : Option Addr), i = .int .i64 (k : Int) ∧ v = .slice A1 k c1 ∧ k ≤ l.length ∧ OwnRF wr w.heap.size A1 k c1 ((crashF ks 0 l).take k) ∧ Below w.heap.size w wr) (fun _ i _ => l.length - (intOf i).toNat)
  case atStart => exact ⟨0, 0, none, rfl, rfl, Nat.zero_le _, World.ownsRow_nil _ _ _ _, Below.refl _ _⟩
  case round =>
    obtain ⟨k, c1, A1, rfl, rfl, hk, hown, hb⟩ := hrel
    have hsz := hb.size
    by_cases hlt : k < l.length
    · obtain ⟨gs, off, e, hg, he⟩ := HR.out.elem Fi.row_length (by omega) (k := k) hlt
      subst e
      have hbc := bcell (Below.mono (B := w.heap.size) hb (Nat.le_refl _))
      have e0 := (hbc.1 _ _ hg).trans (he 0 _ rfl)
      have e1 := (hbc.1 _ _ hg).trans (he 1 _ rfl)
      have e2 := (hbc.1 _ _ hg).trans (he 2 _ rfl)
      rw [Nat.add_zero] at e0
      have hcs := crashF_succ (ks := ks) hlt
      have hxs := HSZ.out l[k] (List.getElem_mem hlt)
      clear he hbc
      generalize l[k] = x at *
      obtain ⟨fk, fb, fA, fn, fc, fs⟩ := x
      simp only at e0 e1 e2 hxs
      obtain ⟨hs0, hs1, hfb⟩ := hxs
      obtain ⟨S, rfl⟩ := Int.eq_ofNat_of_zero_le hs0
      have hS : S ≤ fb.length := by omega
      obtain ⟨m, hm0⟩ : ∃ m, crashN ks k ⟨fk, fb, fA, fn, fc, (S : Int)⟩ = m := ⟨_, rfl⟩
      have hml : m ≤ fb.length := by rw [← hm0]; exact crashN_le (by show ((S : Int)).toNat ≤ fb.length; omega)
      unfold crashX at hcs
      rw [hm0] at hcs
      simp only at hcs
      unfold crashN at hm0
      simp only [Int.toNat_natCast] at hm0
      have hext : (⟨fb.toArray⟩ : ByteArray).extract 0 m = ⟨(fb.take m).toArray⟩ := ext_take fb m
      have HCS := Lib.hid hcs
      have HO := Lib.hid hown
      have HB := Lib.hid hb
      clear hcs hown hb hs0 hs1
      go_upto_region 4 with fail
      obtain ⟨h6, hb3⟩ := one_at wr 88 [.string fk, .string ⟨fb.toArray⟩, .int .i64 (S : Int)]
      have HO := Lib.hid (HO.out.step hb3)
      have HB := Lib.hid (chain HB.out hb3)
      have hz3 := Nat.le_trans hsz hb3.size
      clear hb3 e0 e1 e2
      generalize World.alloc wr _ = w3 at *
      obtain ⟨g6, hg6⟩ : ∃ g6, wr.heap.size = g6 := ⟨_, rfl⟩
      rw [hg6] at h6 ⊢
      clear hg6
      obtain ⟨⟨y0, y1, y2⟩, yf⟩ := at3 h6
      by_cases hki : k < n
      ·
        have hk2 : k < ks.length := by omega
        rw [dif_pos hk2] at hm0
        obtain ⟨gk, ok, u, e, hgk, hu, hck⟩ := (HK.out.keep (fun p hp => HB.out.cell hp)).get (k := k) hki
        subst e
        have hkb := HKS.out ks[k] (List.getElem_mem hk2)
        rw [List.getElem?_map, List.getElem?_eq_getElem hk2] at hu
        have hu3 := (Option.some.inj hu).symm
        subst hu3
        clear hu
        generalize ks[k] = kk at *
        have hlast : (S : Int) + ((kk % (fb.length - S + 1) : Nat) : Int) = (m : Int) := by rw [← hm0]; omega
        have hd1 : ((fb.length : Int) - (S : Int)) = ((fb.length - S : Nat) : Int) := by omega
        have hw1 : IntKind.i64.wrap ((fb.length : Int) - (S : Int)) = ((fb.length - S : Nat) : Int) := by rw [hd1]; exact IntWalk.i64_in _ (by omega)
        have hw2 : IntKind.i64.wrap (((fb.length - S : Nat) : Int) + 1) = ((fb.length - S + 1 : Nat) : Int) := by rw [show (((fb.length - S : Nat) : Int) + 1) = ((fb.length - S + 1 : Nat) : Int) by omega]; exact IntWalk.i64_in _ (by omega)
        have hwk : IntKind.i64.wrap (kk : Int) = (kk : Int) := IntWalk.i64_in _ (by omega)
        have heq : (S : Int) + (kk : Int) % (((fb.length - S : Nat) : Int) + 1) = (m : Int) := by rw [← hlast]; simp
        have hval : wrap64 ((S : Int) + (kk : Int) % (((fb.length - S : Nat) : Int) + 1)) = (m : Int) := by rw [heq]; unfold wrap64; omega
        have HVAL := Lib.hid hval
        have hgw : gk < w3.heap.size := Nat.lt_of_lt_of_le hgk hz3
        clear hval heq hlast
        go_upto_region 6 with fail
        go_quiet (fail)
        rw [HVAL.out]
        clear HVAL hck y0 y1 y2 yf hw1 hw2 hd1 hwk
        replace h6 := h6.drewN nq
        have HO := Lib.hid (show OwnRF (w3.drewN nq) w.heap.size A1 k c1 ((crashF ks 0 l).take k) from HO.out)
        have HB := Lib.hid (below_drewN HB.out nq)
        replace hz3 : w.heap.size ≤ (w3.drewN nq).heap.size := hz3
        clear hgw
        generalize World.drewN _ _ = w3 at *
        go_upto_region 7 with fail
        refine region_any (by kernel_rfl) ?_
        change wpAny _ _ _ _ _ _ _ (World.drew _)
        replace h6 := h6.drew
        have HO := Lib.hid (show OwnRF (World.drew w3) w.heap.size A1 k c1 ((crashF ks 0 l).take k) from HO.out)
        have HB := Lib.hid HB.out.drew
        replace hz3 : w.heap.size ≤ (World.drew w3).heap.size := hz3
        generalize World.drew _ = w4 at *
        obtain ⟨⟨y0, y1, y2⟩, yf⟩ := at3 h6
        have l6 := h6.lt
        have hbn := (one_at w4 88 [.string fk, .string ⟨(fb.take m).toArray⟩, .int .i64 (m : Int)]).2
        have HN := Lib.hid (Rd.lit (w := w4) (t := 88) (n := 1) (cs := [.string fk, .string ⟨(fb.take m).toArray⟩, .int .i64 (m : Int)]) rfl (by simp [maxLen]) (by omega : 0 < 3))
        have HO2 := Lib.hid (HO.out.step hbn)
        have HB2 := Lib.hid (chain HB.out hbn)
        have hsn := Nat.le_trans hz3 hbn.size
        refine stage 10 ?_
        refine tag [0,1,2,3,4,5,6,7,8] ?_
        iterate 9 (
          refine sR (v := ?_) rfl (by kernel_rfl) (fun _ _ _ h => h) (Or.inl ⟨by kernel_rfl, ?_⟩) ?_
          rotate_left
          · (intro wS hwS; obtain ⟨hcS, hfS, hhS⟩ := bcell hwS; go_simp; try (first | (with_reducible rfl) | rw [if_pos (by omega)] | rw [if_neg (by omega)]))
          try simp only [PT])
        refine tagN ?_
        refine stage_one 9 (by kernel_rfl) rfl (by kernel_rfl) (fun K hK => ?_)
        go_simp
        refine hK.out _ _ (hbn) ?_
        clear hK K
        try simp only [PT]
        clear hbn y0 y1 y2 yf l6 h6
        refine stage_end (by kernel_rfl) rfl (fun K hK => ?_)
        rw [if_pos (by kernel_rfl)]
        obtain ⟨i0, hi0, hz0, hz1', hz2'⟩ := info_parts info_rfile
        refine oper_app _ (.tmp 39) (.tmp 48) 84 rfl w.heap.size 88 i0 _ 3 40 Tryz.underlying84 hi0 hz0 hz1' hz2' rfl (by omega) A1 k c1 _ rfl HO2.out _ _ 1 1 _ rfl HN.out (by simp [Value.oneCell']) (by omega) (by simp only [maxLen]; omega) hsn ?_
        intro A3 c3 w5 hT5 hG5 hl5 _
        have hb5 := HB2.out.trans (below_of_app HO2.out hG5 hsn)
        refine hK.out _ _ ?_
        clear hK K
        try simp only [PT]
        first | refine stage 1000000 ?_ | skip
        refine tag [11] ?_
        refine sR (v := ?_) rfl (by kernel_rfl) (fun _ _ _ h => h) (Or.inl ⟨by kernel_rfl, ?_⟩) ?_
        rotate_left
        · (intro wS hwS; obtain ⟨hcS, hfS, hhS⟩ := bcell hwS; go_simp; try (first | (with_reducible rfl) | rw [if_pos (by omega)] | rw [if_neg (by omega)]))
        try simp only [PT]
        refine tagN ?_
        first | refine wpAnyT_done (by kernel_rfl) ?_ _ | refine wpAny_done (by kernel_rfl) ?_ _
        have HFO := Lib.hid (show OwnRF w5 w.heap.size A3 (k + 1) c3 ((crashF ks 0 l).take (k + 1)) from by
          unfold OwnRF
          rw [HCS.out, List.flatMap_append]
          exact hT5)
        have HFB := Lib.hid hb5
        clear hT5 hG5 hl5 hb5 i0 hi0 hz0 hz1' hz2' HN HO HO2 HB HB2 hsn
        go_wp2_with fail
        go_roundw
        case rel => exact ⟨k + 1, c3, A3, by go_num, rfl, by omega, HFO.out, HFB.out⟩
        case measure => simp [intOf]; omega
      ·
        have hk2 : ¬ k < ks.length := by omega
        rw [dif_neg hk2] at hm0
        have hSm : m = S := by omega
        subst hSm
        go_upto_region 7 with fail
        clear y0 y1 y2 yf
        refine region_any (by kernel_rfl) ?_
        change wpAny _ _ _ _ _ _ _ (World.drew _)
        replace h6 := h6.drew
        have HO := Lib.hid (show OwnRF (World.drew w3) w.heap.size A1 k c1 ((crashF ks 0 l).take k) from HO.out)
        have HB := Lib.hid HB.out.drew
        replace hz3 : w.heap.size ≤ (World.drew w3).heap.size := hz3
        generalize World.drew _ = w4 at *
        obtain ⟨⟨y0, y1, y2⟩, yf⟩ := at3 h6
        have l6 := h6.lt
        have hbn := (one_at w4 88 [.string fk, .string ⟨(fb.take m).toArray⟩, .int .i64 (m : Int)]).2
        have HN := Lib.hid (Rd.lit (w := w4) (t := 88) (n := 1) (cs := [.string fk, .string ⟨(fb.take m).toArray⟩, .int .i64 (m : Int)]) rfl (by simp [maxLen]) (by omega : 0 < 3))
        have HO2 := Lib.hid (HO.out.step hbn)
        have HB2 := Lib.hid (chain HB.out hbn)
        have hsn := Nat.le_trans hz3 hbn.size
        refine stage 10 ?_
        refine tag [0,1,2,3,4,5,6,7,8] ?_
        iterate 9 (
          refine sR (v := ?_) rfl (by kernel_rfl) (fun _ _ _ h => h) (Or.inl ⟨by kernel_rfl, ?_⟩) ?_
          rotate_left
          · (intro wS hwS; obtain ⟨hcS, hfS, hhS⟩ := bcell hwS; go_simp; try (first | (with_reducible rfl) | rw [if_pos (by omega)] | rw [if_neg (by omega)]))
          try simp only [PT])
        refine tagN ?_
        refine stage_one 9 (by kernel_rfl) rfl (by kernel_rfl) (fun K hK => ?_)
        go_simp
        refine hK.out _ _ (hbn) ?_
        clear hK K
        try simp only [PT]
        clear hbn y0 y1 y2 yf l6 h6
        refine stage_end (by kernel_rfl) rfl (fun K hK => ?_)
        rw [if_pos (by kernel_rfl)]
        obtain ⟨i0, hi0, hz0, hz1', hz2'⟩ := info_parts info_rfile
        refine oper_app _ (.tmp 39) (.tmp 48) 84 rfl w.heap.size 88 i0 _ 3 40 Tryz.underlying84 hi0 hz0 hz1' hz2' rfl (by omega) A1 k c1 _ rfl HO2.out _ _ 1 1 _ rfl HN.out (by simp [Value.oneCell']) (by omega) (by simp only [maxLen]; omega) hsn ?_
        intro A3 c3 w5 hT5 hG5 hl5 _
        have hb5 := HB2.out.trans (below_of_app HO2.out hG5 hsn)
        refine hK.out _ _ ?_
        clear hK K
        try simp only [PT]
        first | refine stage 1000000 ?_ | skip
        refine tag [11] ?_
        refine sR (v := ?_) rfl (by kernel_rfl) (fun _ _ _ h => h) (Or.inl ⟨by kernel_rfl, ?_⟩) ?_
        rotate_left
        · (intro wS hwS; obtain ⟨hcS, hfS, hhS⟩ := bcell hwS; go_simp; try (first | (with_reducible rfl) | rw [if_pos (by omega)] | rw [if_neg (by omega)]))
        try simp only [PT]
        refine tagN ?_
        first | refine wpAnyT_done (by kernel_rfl) ?_ _ | refine wpAny_done (by kernel_rfl) ?_ _
        have HFO := Lib.hid (show OwnRF w5 w.heap.size A3 (k + 1) c3 ((crashF ks 0 l).take (k + 1)) from by
          unfold OwnRF
          rw [HCS.out, List.flatMap_append]
          exact hT5)
        have HFB := Lib.hid hb5
        clear hT5 hG5 hl5 hb5 i0 hi0 hz0 hz1' hz2' HN HO HO2 HB HB2 hsn
        go_wp2_with fail
        go_roundw
        case rel => exact ⟨k + 1, c3, A3, by go_num, rfl, by omega, HFO.out, HFB.out⟩
        case measure => simp [intOf]; omega
    · obtain rfl : k = l.length := by omega
      have hcl2 := crashF_length ks 0 l
      rw [List.take_of_length_le (by omega)] at hown
      have hI := H.out.step hb
      obtain ⟨Ad, cd, hd, hod⟩ := hI.ex
      obtain ⟨⟨z0, z1, z2⟩, zf0, zf1, zf2⟩ := at3 hd
      obtain ⟨hat, hG⟩ := At.many [(0, .slice A1 l.length c1), (1, .bool false), (2, .int .i64 (-1))] hd
      dsimp only [setMany, setL, List.set] at hat hG
      obtain ⟨q, hqe⟩ : ∃ q, crashF ks 0 l = q := ⟨_, rfl⟩
      rw [hqe] at hcl2 hown
      have HQ := Lib.hid hqe
      clear hqe
      have hll : l.length = q.length := hcl2.symm
      rw [hll] at hown hat hG
      have hfin := IsRf.turn (l' := q) hd (own_lower (show World.ownsRow _ _ _ _ _ _ _ from hown) (Nat.zero_le _)) hG hat
      have HFIN := Lib.hid hfin
      have HM := Lib.hid (((Mod.refl (fun i _ => i = g) w).below hb).grown hG (fun i o _ _ e => (Option.some.inj e).symm))
      have HLL := Lib.hid hll
      clear hfin hat hI hd hod hG hown hb hll hcl2
      go_wp2_with fail
      go_end0
      exact ⟨rfl, by rw [HLL.out]; exact HM.out, by rw [HLL.out, HQ.out]; exact HFIN.out⟩
end
end Go.Proofs.YtnkjekkdndjfaaaGreat
